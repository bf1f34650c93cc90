/- The network by hand: which texts are a tenant's name. -/
import Derived.Test.YtlnipfmgdkiboaaN2
import Derived.Laws.RangeAny
import Derived.Maps.RangeWalk
namespace Go.Proofs.Ytlnipfmgdkiboaa.N
open Go.RowKit Go.Proofs.Ytlnipfmgdkiboaa.Q Go.Proofs.YtlnipfmgdkiboaaW.PrintWords Go.Proofs.YtlnipfmgdkiboaaW.PrintLast Go.Proofs.YtlnipfmgdkiboaaW.PrintMore
set_option linter.unusedVariables false
set_option linter.unusedSimpArgs false

theorem letter_some (c : Int) : ∃ a b, labels_letter.f c = some (a, b) := by
  unfold labels_letter.f
  repeat' split
  all_goals exact ⟨_, _, rfl⟩
/-- Is what stands from a place on of letters? -/
def nameGo (s : ByteArray) : Nat → Nat → Bool
  | 0, _ => true
  | k + 1, pos => if pos < s.size then (match labels_letter.f (Utf8.decode s pos).1 with
      | some (a, b) => if a = true ∧ ¬(pos = 0 ∧ b = false) then nameGo s k (pos + (Utf8.decode s pos).2) else false
      | none => false) else true
def named (s : ByteArray) : Bool := if s.toList = [] ∨ 64 < s.size then false else nameGo s (s.size + 1) 0
def tenant (s : ByteArray) : Bool := if s.size ≤ 32 then named s else false
theorem decode_wide (s : ByteArray) (pos : Nat) (h : pos < s.size) : 1 ≤ (Utf8.decode s pos).2 := by
  by_cases ha : (s[pos]'h).toNat < 128
  · rw [decode_ascii s pos h ha]; exact Nat.le_refl _
  · exact (decode_high s pos h (by omega)).2
theorem next_str {P : Program} {w : World} {r : Nat} {s : ByteArray} {pos : Nat} (hr : w.heap[r]? = some (.stringIter s pos)) (h : pos < s.size) (ty : TypeId) :
    (Instr.next (.pointer (some ⟨r, 0, none⟩)) true ty).run P w = .ok (.tuple #[.bool true, .int .i64 pos, .int .i32 (Utf8.decode s pos).1]) (Go.ChangeMaps.setBlock w r (.stringIter s (pos + (Utf8.decode s pos).2))) := by
  simp only [Instr.next, getObj, setObj, Sem.run_bind, Sem.run, hr, Result.andThen, h, if_true]
  simp [goInt, Go.ChangeMaps.setBlock]
theorem next_str_end {P : Program} {w : World} {r : Nat} {s : ByteArray} {pos : Nat} (hr : w.heap[r]? = some (.stringIter s pos)) (h : ¬ pos < s.size) (ty : TypeId) :
    (Instr.next (.pointer (some ⟨r, 0, none⟩)) true ty).run P w = .ok (.tuple #[.bool false]) w := by
  simp [Instr.next, getObj, Sem.run, hr, h]
theorem wpList_next_str {P : Program} (w : World) {ops : Array Oper} {rest : List Oper} {o : Oper} {a : Act} {Q : Exit → Act → World → Prop}
    (hg : o.guard = none) (it : Operand) (hop : o.op = Op.next it true) (M V : Value) (hm : a.eval it = M) (w1 : World)
    (hrun : (Instr.next M true o.type).run P w = .ok V w1) (hK : wpList P ops Q rest (a.put o.dst V) w1) : wpList P ops Q (o :: rest) a w := by
  refine wpList_plain hg fun K' hK' => ?_
  unfold Oper.wp
  simp [execOp, hop, hm, hrun, Result.andThen]
  exact hK' _ _ hK
set_option maxHeartbeats 1000000 in
set_option maxRecDepth 100000 in
theorem named_calls (s : ByteArray) (w : World) : Calls Try.prog 40 #[.string s] w fun e w' => e = .returned (.bool (named s)) ∧ Below w.heap.size w w' := by
  by_cases he : s.toList = []
  · have HR := Aside0.mk (show named s = false by unfold named; rw [if_pos (.inl he)])
    generalize named s = r at *
    have HR' := HR.out
    clear HR
    subst HR'
    go_enter Try.func40, Try.ntmps40
    go_wp2
    go_ret
    exact ⟨rfl, Below.refl _ _⟩
  by_cases hl : 64 < s.size
  · have HR := Aside0.mk (show named s = false by unfold named; rw [if_pos (.inr hl)])
    have hl' : (s.size : Int) > 64 := by omega
    generalize named s = r at *
    have HR' := HR.out
    clear HR
    subst HR'
    go_enter Try.func40, Try.ntmps40
    go_wp2
    go_ret
    exact ⟨rfl, Below.refl _ _⟩
  have HR := Aside0.mk (show named s = nameGo s (s.size + 1) 0 by unfold named; rw [if_neg (fun h => h.elim he hl)])
  have hl' : ¬ (s.size : Int) > 64 := by omega
  generalize named s = r at *
  obtain ⟨w1, hw1⟩ : ∃ w1, w1 = w.iter s 0 := ⟨_, rfl⟩
  have hrg : (Instr.range 9 (.string s)).run Try.prog w = .ok (.pointer (some ⟨w.heap.size, 0, none⟩)) w1 := by rw [hw1]; exact run_range_string w 9 s Try.underlying9
  have HI := Aside0.mk (show w1.heap[w.heap.size]? = some (.stringIter s 0) by rw [hw1]; exact World.iter_heap w s 0)
  have HB := Aside0.mk (show Below w.heap.size w w1 by rw [hw1]; exact below_alloc (Below.refl _ _) _)
  clear hw1
  have HE := Aside0.mk he
  have hemp : s.toList.isEmpty = false := by
    cases h : s.toList with
    | nil => exact absurd h he
    | cons _ _ => rfl
  have HL := Aside0.mk hl
  go_enter Try.func40, Try.ntmps40
  go_wp2
  clear hrg he hl hl' hemp
  try go_frame
  go_loopg [3] (s.size + 1) (fun kq v3 wr => ∃ (pos : Nat), Aside0 (nameGo s kq pos = r) ∧ Aside0 (s.size < kq + pos ∧ 0 < kq) ∧ Aside0 (wr.heap[w.heap.size]? = some (.stringIter s pos)) ∧ Aside0 (Below w.heap.size w wr))
  case atStart => exact ⟨0, ⟨HR.out.symm⟩, ⟨by omega⟩, HI, HB⟩
  case round =>
    obtain ⟨pos, HA, HK, HI1, HB1⟩ := hrel
    cases gk with
    | zero => have := HK.out; omega
    | succ k1 =>
    by_cases hp : pos < s.size
    · have hnx := next_str (P := Try.prog) HI1.out hp 0
      have HW := Aside0.mk (decode_wide s pos hp)
      obtain ⟨a, b, hf⟩ := letter_some ((Utf8.decode s pos).1 : Int)
      have hA := HA.out
      unfold nameGo at hA
      rw [if_pos hp, hf] at hA
      dsimp only at hA
      have HF := Aside0.mk hf
      have HA' := Aside0.mk hA
      have hrl : w.heap.size < wr.heap.size := (Array.getElem?_eq_some_iff.1 HI1.out).1
      have HS := Aside0.mk (MapKept.heap_set (o' := .stringIter s (pos + (Utf8.decode s pos).2)) HI1.out)
      have HBS := Aside0.mk (show Below w.heap.size w (Go.ChangeMaps.setBlock wr w.heap.size (.stringIter s (pos + (Utf8.decode s pos).2))) from ⟨HB1.out.os, HB1.out.tape, HB1.out.output, by simpa [Go.ChangeMaps.setBlock] using HB1.out.size, fun k hk => ((MapKept.heap_set HI1.out).2 k (by omega)).trans (HB1.out.block k hk)⟩)
      have HS1 := Aside0.mk (show (Go.ChangeMaps.setBlock wr w.heap.size (.stringIter s (pos + (Utf8.decode s pos).2))).heap[w.heap.size]? = some (.stringIter s (pos + (Utf8.decode s pos).2)) from HS.out.1)
      clear hA hf HA HS hrl
      generalize Go.ChangeMaps.setBlock wr w.heap.size (.stringIter s (pos + (Utf8.decode s pos).2)) = w2 at *
      generalize (Utf8.decode s pos).2 = n at *
      generalize (Utf8.decode s pos).1 = c at *
      have HX := Aside0.mk (show ∀ (nd : Nat), (s.size < k1 + (pos + n) ∧ 0 < k1) ∧ (w2.drewN nd).heap[w.heap.size]? = some (.stringIter s (pos + n)) ∧ Below w.heap.size w (w2.drewN nd) from fun nd => ⟨by have h1 := HK.out; have h2 := HW.out; exact ⟨by omega, by omega⟩, HS1.out, pw_below_drewN HBS.out nd⟩)
      rcases Nat.eq_zero_or_pos pos with hz | hz
      · have hz1 : (pos : Int) = 0 := by omega
        have HZ := Aside0.mk hz
        clear hz hp
        rcases a with _ | _
        · have hr : r = false := by
            have := HA'.out
            simp at this
            exact this
          subst hr
          go_wp2_with (first
            | (at_next; refine wpList_next_str _ rfl (.tmp 15) rfl _ _ rfl _ hnx ?_)
            | (go_at_call 46; (with_reducible refine (labels_letter.calls _ _ _ _ HF.out).mono ?_); rintro e w' ⟨rfl, ⟨nd, rfl⟩⟩))
          go_ret
          exact ⟨rfl, (HX.out nd).2.2⟩
        rcases b with _ | _
        · have hr : r = false := by
            have := HA'.out
            simp [HZ.out] at this
            exact this
          subst hr
          go_wp2_with (first
            | (at_next; refine wpList_next_str _ rfl (.tmp 15) rfl _ _ rfl _ hnx ?_)
            | (go_at_call 46; (with_reducible refine (labels_letter.calls _ _ _ _ HF.out).mono ?_); rintro e w' ⟨rfl, ⟨nd, rfl⟩⟩))
          go_ret
          exact ⟨rfl, (HX.out nd).2.2⟩
        · have hA2 : nameGo s k1 (pos + n) = r := by
            have h1 := HA'.out
            rwa [if_pos ⟨rfl, fun h => by cases h.2⟩] at h1
          have HA2 := Aside0.mk hA2
          clear hA2
          go_wp2_with (first
            | (at_next; refine wpList_next_str _ rfl (.tmp 15) rfl _ _ rfl _ hnx ?_)
            | (go_at_call 46; (with_reducible refine (labels_letter.calls _ _ _ _ HF.out).mono ?_); rintro e w' ⟨rfl, ⟨nd, rfl⟩⟩))
          go_roundg k1
          case measure => omega
          case rel => exact ⟨pos + n, HA2, ⟨(HX.out nd).1⟩, ⟨(HX.out nd).2.1⟩, ⟨(HX.out nd).2.2⟩⟩
      · have hz1 : ¬ (pos : Int) = 0 := by omega
        have HZ := Aside0.mk hz
        clear hz hp
        cases a
        · have hr : r = false := by
            have := HA'.out
            simp at this
            exact this
          subst hr
          go_wp2_with (first
            | (at_next; refine wpList_next_str _ rfl (.tmp 15) rfl _ _ rfl _ hnx ?_)
            | (go_at_call 46; (with_reducible refine (labels_letter.calls _ _ _ _ HF.out).mono ?_); rintro e w' ⟨rfl, ⟨nd, rfl⟩⟩))
          go_ret
          exact ⟨rfl, (HX.out nd).2.2⟩
        · have hA2 : nameGo s k1 (pos + n) = r := by
            have h1 := HA'.out
            have h2 := HZ.out
            rwa [if_pos ⟨rfl, fun h => by omega⟩] at h1
          have HA2 := Aside0.mk hA2
          clear hA2
          go_wp2_with (first
            | (at_next; refine wpList_next_str _ rfl (.tmp 15) rfl _ _ rfl _ hnx ?_)
            | (go_at_call 46; (with_reducible refine (labels_letter.calls _ _ _ _ HF.out).mono ?_); rintro e w' ⟨rfl, ⟨nd, rfl⟩⟩))
          go_roundg k1
          case measure => omega
          case rel => exact ⟨pos + n, HA2, ⟨(HX.out nd).1⟩, ⟨(HX.out nd).2.1⟩, ⟨(HX.out nd).2.2⟩⟩
    · have hr : r = true := by
        have := HA.out
        unfold nameGo at this
        rw [if_neg hp] at this
        exact this.symm
      subst hr
      have hnx := next_str_end (P := Try.prog) HI1.out hp 0
      go_wp2_with (at_next; refine wpList_next_str _ rfl (.tmp 15) rfl _ _ rfl _ hnx ?_)
      go_ret
      exact ⟨rfl, HB1.out⟩
set_option maxHeartbeats 1000000 in
set_option maxRecDepth 100000 in
theorem tenant_calls (s : ByteArray) (w : World) : Calls Try.prog 26 #[.string s] w fun e w' => e = .returned (.bool (tenant s)) ∧ Below w.heap.size w w' := by
  by_cases hl : s.size ≤ 32
  · have HT := Aside0.mk (show tenant s = named s from if_pos hl)
    have hl' : (s.size : Int) ≤ 32 := by omega
    rw [HT.out]
    generalize hn : named s = r
    have HN := Aside0.mk hn
    clear hn HT
    go_enter Try.func26, Try.ntmps26
    go_wp2_with (go_at_call 40; (with_reducible refine (named_calls s _).mono ?_); rw [HN.out]; rintro e w1 ⟨rfl, hb⟩)
    go_ret
    exact ⟨rfl, hb⟩
  · have HT := Aside0.mk (show tenant s = false from if_neg hl)
    have hl' : ¬ (s.size : Int) ≤ 32 := by omega
    rw [HT.out]
    clear HT
    go_enter Try.func26, Try.ntmps26
    go_wp2
    go_ret
    exact ⟨rfl, Below.refl _ _⟩
theorem tenant_a : tenant ⟨#[97]⟩ = true := by decide +kernel
end Go.Proofs.Ytlnipfmgdkiboaa.N
