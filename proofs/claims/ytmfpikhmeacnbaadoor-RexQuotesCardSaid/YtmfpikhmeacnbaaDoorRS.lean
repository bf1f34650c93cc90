-- Words of this session's own: readings of what a row takes, with the bounds of its reach. YtmfpikhmeacnbaaDoor: the seat's name.
import Derived.Test.YtmfpikhmeacnbaaDoorRW
import Derived.SizedLaws
import Derived.KernelRfl
namespace Go.Proofs.YtmfpikhmeacnbaaDoorW.RowWords
open Go.RowKit Go.Deep Go.Proofs.YtmfpikhmeacnbaaDoorW.PrintWords Go.Proofs.YtmfpikhmeacnbaaDoorW.PrintLast Go.Proofs.YtmfpikhmeacnbaaDoorW.PrintMore
set_option linter.unusedVariables false
set_option linter.unusedSimpArgs false

/-- The reach in bytes. -/
def reach : Nat := 140737488351232
theorem reach_eq : reach = 140737488351232 := rfl
/-- What has been read is within the reach. -/
def Light {H : Type} (P : Program) (t : TypeId) (x : DataW H) : Prop := ∀ n ∈ x.weights P t, n ≤ reachBytes
theorem light_of {H : Type} {P : Program} {ts : List TypeId} {ds : List (DataW H)} (hsz : (DataW.weightsEach P ts ds).all (· ≤ reachBytes) = true) {j : Nat} {t : TypeId} {d : DataW H} (ht : ts[j]? = some t) (hd : ds[j]? = some d) : Light P t d := fun n hn => by
  have := List.all_eq_true.1 hsz n (DataW.weights_mem_each ht hd n hn)
  simpa using this
theorem light_part {H : Type} {P : Program} {t : TypeId} {fs : Array Field} (ht : P.underlying t = some (.struct fs)) {ds : List (DataW H)} (h : Light P t (.agg ds)) {j : Nat} {u : TypeId} {d : DataW H} (hu : (fs.toList.map (·.type))[j]? = some u) (hd : ds[j]? = some d) : Light P u d := fun n hn => by
  refine h n ?_
  have := DataW.weights_mem_each hu hd n hn
  simpa [DataW.weights, ht] using this
theorem weights_all_mem {H : Type} {P : Program} {e : TypeId} : ∀ {ds : List (DataW H)} {d : DataW H}, d ∈ ds → ∀ n ∈ d.weights P e, n ∈ DataW.weightsAll P e ds
  | d0 :: r, d, hm, n, hn => by
    simp only [DataW.weightsAll, List.mem_append]
    rcases List.mem_cons.1 hm with rfl | h
    · exact .inl hn
    · exact .inr (weights_all_mem h n hn)
/-- Whatever reads as data of type t is told by the kind d, and what is within the reach is well formed. -/
def Rs {α : Type} (d : Kd α) (wf : α → Prop) (P : Program) (t : TypeId) : Prop :=
  ∀ (H : Type) (enc : TypeId × Value → H) (w : World) (base : Nat) (spare : Nat → Bool) (held : Bool) (fuel : Nat) (cs : List Value) (x : DataW H × List MemPlace), DataW.trod enc P w base spare held fuel t cs = some x → ∃ y : α, d.K w y cs ∧ (Light P t x.1 → wf y)
theorem rs_int {P : Program} {t : TypeId} {k : IntKind} (ht : P.underlying t = some (.int k)) : Rs (Kd.int k) (fun n => (Lit.int k n).wf = true) P t := by
  intro H enc w base spare held fuel cs x h
  obtain ⟨n, rfl, _, hw⟩ := DataW.trod_int ht h
  exact ⟨n, rfl, fun _ => hw⟩
theorem rs_bool {P : Program} {t : TypeId} (ht : P.underlying t = some .bool) : Rs Kd.bool (fun _ => True) P t := by
  intro H enc w base spare held fuel cs x h
  obtain ⟨n, rfl, _⟩ := DataW.trod_bool ht h
  exact ⟨n, rfl, fun _ => trivial⟩
theorem rs_string {P : Program} {t : TypeId} (ht : P.underlying t = some .string) : Rs Kd.string (fun s => s.size ≤ reach) P t := by
  intro H enc w base spare held fuel cs x h
  obtain ⟨n, rfl, hx, hw⟩ := DataW.trod_string ht h
  subst hx
  refine ⟨n, rfl, fun hl => ?_⟩
  have h1 := hl n.data.toList.length (by simp only [DataW.weights]; exact List.mem_singleton.2 rfl)
  rw [Array.length_toList] at h1
  exact h1
theorem rs_slice {α : Type} {d : Kd α} {wf : α → Prop} {P : Program} {t e : TypeId} {B : Nat} (ht : P.underlying t = some (.slice e)) (hsz : P.cellsOf e = d.sz) (hB : P.bytesOf e = B) (hd : Rs d wf P e) :
    Rs (Kd.slice e d) (fun l => l.length * B ≤ reach ∧ ∀ y ∈ l, wf y) P t := by
  intro H enc w base spare held fuel cs x h
  rcases open_slice ht h with ⟨rfl, rfl⟩ | ⟨a, len, cap, m, n, D, Pl, rfl, hb, hl, hm, hmm, rfl, hel⟩
  · exact ⟨[], ⟨none, 0, rfl, Nat.le_refl _, Kd.C_nil _ _⟩, fun _ => by simp⟩
  · have hlm : len ≤ m := by rw [hmm]; split <;> omega
    have hall : ∀ i, i < len → ∃ y : α, ∃ cs', w.cells? base (a.add (i * P.cellsOf e)) (P.cellsOf e) = some cs' ∧ d.K w y cs' ∧ (Light P e (D i) → wf y) := by
      intro i hi
      obtain ⟨cs', h1, h2⟩ := hel i (by omega)
      obtain ⟨y, hy, hw⟩ := hd H enc w base spare held n cs' _ h2
      exact ⟨y, cs', h1, hy, hw⟩
    by_cases h0 : len = 0
    · subst h0
      exact ⟨[], ⟨some a, cap, rfl, Nat.zero_le _, ⟨rfl, Nat.zero_le _, fun h => absurd h (by simp)⟩⟩, fun _ => by simp⟩
    · obtain ⟨y0, _⟩ := hall 0 (by omega)
      have : Inhabited α := ⟨y0⟩
      obtain ⟨f, hf⟩ := choose_lt hall
      refine ⟨(List.range len).map f, ⟨some a, cap, by simp, by simpa using hl, ⟨by simp, ?_, fun _ => ⟨a, rfl, ?_⟩⟩⟩, fun hlt => ⟨?_, ?_⟩⟩
      · simp only [List.length_map, List.length_range]; unfold maxLen at hm; omega
      · intro j p hj
        obtain ⟨hjl, hjp⟩ := List.getElem?_eq_some_iff.1 hj
        simp only [List.length_map, List.length_range] at hjl
        simp only [List.getElem_map, List.getElem_range] at hjp
        subst hjp
        obtain ⟨cs', h1, h2, _⟩ := hf j hjl
        obtain ⟨_, hlen, hcell⟩ := World.cells?_some h1
        refine ⟨cs', by rw [hlen, hsz], h2, fun i u hi => ?_⟩
        have hil : i < P.cellsOf e := by
          have := (List.getElem?_eq_some_iff.1 hi).1
          omega
        rw [← Deep.add_add, ← hsz, hcell i hil]
        exact hi
      · have h1 := hlt _ (by simp only [DataW.weights, ht]; exact List.mem_cons_self)
        rw [hB] at h1
        simp only [List.length_map, List.length_range] at h1 ⊢
        exact Nat.le_trans (Nat.mul_le_mul_right _ (Nat.le_add_right _ _)) h1
      · intro y hy
        obtain ⟨i, hi, rfl⟩ := List.mem_map.1 hy
        have hi' : i < len := by simpa using hi
        obtain ⟨_, _, _, hw⟩ := hf i hi'
        refine hw (fun n hn => hlt n ?_)
        simp only [DataW.weights, ht, List.mem_cons, List.mem_append]
        exact .inr (.inl (weights_all_mem (List.mem_map.2 ⟨i, hi, rfl⟩) n hn))
end Go.Proofs.YtmfpikhmeacnbaaDoorW.RowWords
