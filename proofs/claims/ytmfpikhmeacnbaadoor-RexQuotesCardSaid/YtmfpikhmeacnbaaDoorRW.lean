-- Words of this session's own: from what a row reads (DataW.trod) to what the printed contracts ask (Kd). YtmfpikhmeacnbaaDoor: the seat's name.
import Derived.Test.YtmfpikhmeacnbaaDoorWMore
import Derived.Deep.Slices
import Derived.Deep.Strs
import Derived.ChangeArms
import Derived.WideShapes
import Derived.DataReads
namespace Go.Proofs.YtmfpikhmeacnbaaDoorW.RowWords
open Go.RowKit Go.Deep Go.Proofs.YtmfpikhmeacnbaaDoorW.PrintWords Go.Proofs.YtmfpikhmeacnbaaDoorW.PrintLast Go.Proofs.YtmfpikhmeacnbaaDoorW.PrintMore
set_option linter.unusedVariables false
set_option linter.unusedSimpArgs false

/-- Whatever reads as data of type t is told by the kind d, and is well formed. -/
def Rd {α : Type} (d : Kd α) (wf : α → Prop) (P : Program) (t : TypeId) : Prop :=
  ∀ (H : Type) (enc : TypeId × Value → H) (w : World) (base : Nat) (spare : Nat → Bool) (held : Bool) (fuel : Nat) (cs : List Value) (x : DataW H × List MemPlace), DataW.trod enc P w base spare held fuel t cs = some x → ∃ y : α, d.K w y cs ∧ wf y

theorem rd_int {P : Program} {t : TypeId} {k : IntKind} (ht : P.underlying t = some (.int k)) : Rd (Kd.int k) (fun n => (Lit.int k n).wf = true) P t := by
  intro H enc w base spare held fuel cs x h
  obtain ⟨n, rfl, _, hw⟩ := DataW.trod_int ht h
  exact ⟨n, rfl, hw⟩
theorem rd_bool {P : Program} {t : TypeId} (ht : P.underlying t = some .bool) : Rd Kd.bool (fun _ => True) P t := by
  intro H enc w base spare held fuel cs x h
  obtain ⟨n, rfl, _⟩ := DataW.trod_bool ht h
  exact ⟨n, rfl, trivial⟩
theorem rd_string {P : Program} {t : TypeId} (ht : P.underlying t = some .string) : Rd Kd.string (fun s => s.size ≤ maxLen) P t := by
  intro H enc w base spare held fuel cs x h
  obtain ⟨n, rfl, _, hw⟩ := DataW.trod_string ht h
  exact ⟨n, rfl, hw⟩
theorem rd_slice {α : Type} {d : Kd α} {wf : α → Prop} {P : Program} {t e : TypeId} (ht : P.underlying t = some (.slice e)) (hsz : P.cellsOf e = d.sz) (hd : Rd d wf P e) :
    Rd (Kd.slice e d) (fun l => l.length ≤ maxLen ∧ ∀ y ∈ l, wf y) P t := by
  intro H enc w base spare held fuel cs x h
  rcases open_slice ht h with ⟨rfl, rfl⟩ | ⟨a, len, cap, m, n, D, Pl, rfl, hb, hl, hm, hmm, _, hel⟩
  · exact ⟨[], ⟨none, 0, rfl, Nat.le_refl _, Kd.C_nil _ _⟩, by simp, by simp⟩
  · have hlm : len ≤ m := by rw [hmm]; split <;> omega
    have hall : ∀ i, i < len → ∃ y : α, ∃ cs', w.cells? base (a.add (i * P.cellsOf e)) (P.cellsOf e) = some cs' ∧ d.K w y cs' ∧ wf y := by
      intro i hi
      obtain ⟨cs', h1, h2⟩ := hel i (by omega)
      obtain ⟨y, hy, hw⟩ := hd H enc w base spare held n cs' _ h2
      exact ⟨y, cs', h1, hy, hw⟩
    by_cases h0 : len = 0
    · subst h0
      exact ⟨[], ⟨some a, cap, rfl, Nat.zero_le _, ⟨rfl, Nat.zero_le _, fun h => absurd h (by simp)⟩⟩, by simp, by simp⟩
    · obtain ⟨y0, _⟩ := hall 0 (by omega)
      have : Inhabited α := ⟨y0⟩
      obtain ⟨f, hf⟩ := choose_lt hall
      refine ⟨(List.range len).map f, ⟨some a, cap, by simp, by simpa using hl, ⟨by simp, ?_, fun _ => ⟨a, rfl, ?_⟩⟩⟩, by simp; omega, ?_⟩
      · simp only [List.length_map, List.length_range]; unfold maxLen at hm; omega
      · intro j p hj
        obtain ⟨hjl, hjp⟩ := List.getElem?_eq_some_iff.1 hj
        simp only [List.length_map, List.length_range] at hjl
        simp only [List.getElem_map, List.getElem_range] at hjp
        subst hjp
        obtain ⟨cs', h1, h2, _⟩ := hf j hjl
        obtain ⟨_, hlen, hcell⟩ := World.cells?_some h1
        refine ⟨cs', by rw [hlen, hsz], h2, fun i u hi => ?_⟩
        have hil : i < P.cellsOf e := by
          have := (List.getElem?_eq_some_iff.1 hi).1
          omega
        rw [← Deep.add_add, ← hsz, hcell i hil]
        exact hi
      · intro y hy
        obtain ⟨i, hi, rfl⟩ := List.mem_map.1 hy
        obtain ⟨_, _, _, hw⟩ := hf i (by simpa using hi)
        exact hw
end Go.Proofs.YtmfpikhmeacnbaaDoorW.RowWords
