/- Patterns by hand: special, bad, peek, skip (mkX1.py). -/
import Derived.Test.YtmfpikhmeacnbaaDoorQ1
import Derived.Test.YtmfpikhmeacnbaaDoorS1
import Derived.Laws.RangeAny
import Derived.Maps.RangeWalk
import Derived.MapKept
import Derived.Laws.IdiomRangeMap
import Derived.Maps.Own
import Derived.Lib.SliceRun
import Derived.LoopN
import Derived.WalkLawsBesides
namespace Go.Proofs.YtmfpikhmeacnbaaDoor.X
open Go.RowKit Go.Proofs.YtmfpikhmeacnbaaDoor.Q Go.Proofs.YtmfpikhmeacnbaaDoorW.PrintWords Go.Proofs.YtmfpikhmeacnbaaDoorW.PrintLast Go.Proofs.YtmfpikhmeacnbaaDoorW.PrintMore
set_option linter.unusedVariables false
set_option linter.unusedSimpArgs false
theorem next_str {P : Program} {w : World} {r : Nat} {s : ByteArray} {pos : Nat} (hr : w.heap[r]? = some (.stringIter s pos)) (h : pos < s.size) (ty : TypeId) :
    (Instr.next (.pointer (some ⟨r, 0, none⟩)) true ty).run P w = .ok (.tuple #[.bool true, .int .i64 pos, .int .i32 (Utf8.decode s pos).1]) (Go.ChangeMaps.setBlock w r (.stringIter s (pos + (Utf8.decode s pos).2))) := by
  simp only [Instr.next, getObj, setObj, Sem.run_bind, Sem.run, hr, Result.andThen, h, if_true]
  simp [goInt, Go.ChangeMaps.setBlock]
theorem next_str_end {P : Program} {w : World} {r : Nat} {s : ByteArray} {pos : Nat} (hr : w.heap[r]? = some (.stringIter s pos)) (h : ¬ pos < s.size) (ty : TypeId) :
    (Instr.next (.pointer (some ⟨r, 0, none⟩)) true ty).run P w = .ok (.tuple #[.bool false]) w := by
  simp [Instr.next, getObj, Sem.run, hr, h]
theorem wpList_next_str {P : Program} (w : World) {ops : Array Oper} {rest : List Oper} {o : Oper} {a : Act} {Q : Exit → Act → World → Prop}
    (hg : o.guard = none) (it : Operand) (hop : o.op = Op.next it true) (M V : Value) (hm : a.eval it = M) (w1 : World)
    (hrun : (Instr.next M true o.type).run P w = .ok V w1) (hK : wpList P ops Q rest (a.put o.dst V) w1) : wpList P ops Q (o :: rest) a w := by
  refine wpList_plain hg fun K' hK' => ?_
  unfold Oper.wp
  simp [execOp, hop, hm, hrun, Result.andThen]
  exact hK' _ _ hK
/-- An iterator over a text goes on. -/
theorem iter_next {w wr : World} {b : Nat} {s : ByteArray} {pos q : Nat} (hb : w.heap.size ≤ b) (hi : wr.heap[b]? = some (.stringIter s pos)) (hB : Below w.heap.size w wr) :
    (Go.ChangeMaps.setBlock wr b (.stringIter s q)).heap[b]? = some (.stringIter s q) ∧ Below w.heap.size w (Go.ChangeMaps.setBlock wr b (.stringIter s q)) := by
  have HS := MapKept.heap_set (o' := .stringIter s q) hi
  exact ⟨HS.1, hB.os, hB.tape, hB.output, by simpa [Go.ChangeMaps.setBlock] using hB.size, fun k hk => ((MapKept.heap_set (o' := .stringIter s q) hi).2 k (by omega)).trans (hB.block k hk)⟩
/-- The runes that have a meaning of their own. -/
def spL : List Int := [46, 42, 43, 63, 40, 41, 91, 93, 123, 125, 124, 94, 36, 92]
def spS : ByteArray := ⟨#[46, 42, 43, 63, 40, 41, 91, 93, 123, 125, 124, 94, 36, 92]⟩
def special (c : Int) : Bool := spL.contains c
theorem sp_at : ∀ pos, pos < 14 → ((Utf8.decode spS pos).1 : Int) = spL.getD pos 0 ∧ (Utf8.decode spS pos).2 = 1 := by decide +kernel
theorem sp_drop (pos : Nat) (h : pos < 14) (c : Int) : (spL.drop pos).contains c = ((spL.getD pos 0 == c) || (spL.drop (pos + 1)).contains c) := by
  have hl : pos < spL.length := h
  rw [List.drop_eq_getElem_cons hl, List.contains_cons, List.getD_eq_getElem?_getD, List.getElem?_eq_getElem hl]
  generalize spL[pos] = y
  by_cases e : c = y
  · subst e; simp
  · have e' : ¬ y = c := fun h => e h.symm
    rw [Option.getD_some, beq_eq_false_iff_ne.2 e, beq_eq_false_iff_ne.2 e']
set_option maxHeartbeats 1000000 in
set_option maxRecDepth 100000 in
theorem special_calls (c : Int) (w : World) : Calls Tryd.prog 31 #[.int .i32 c] w fun e w' => e = .returned (.bool (special c)) ∧ Below w.heap.size w w' := by
  obtain ⟨r, hr⟩ : ∃ r, special c = r := ⟨_, rfl⟩
  rw [hr]
  have HR := Aside0.mk (show (spL.drop 0).contains c = r from hr)
  clear hr
  obtain ⟨w1, hw1⟩ : ∃ w1, w1 = w.iter spS 0 := ⟨_, rfl⟩
  have hrg : (Instr.range 9 (.string ⟨#[46, 42, 43, 63, 40, 41, 91, 93, 123, 125, 124, 94, 36, 92]⟩)).run Tryd.prog w = .ok (.pointer (some ⟨w.heap.size, 0, none⟩)) w1 := by rw [hw1]; exact run_range_string w 9 spS Tryd.underlying9
  have HI := Aside0.mk (show w1.heap[w.heap.size]? = some (.stringIter spS 0) by rw [hw1]; exact World.iter_heap w spS 0)
  have HB := Aside0.mk (show Below w.heap.size w w1 by rw [hw1]; exact below_alloc (Below.refl _ _) _)
  clear hw1
  go_enter Tryd.func31, Tryd.ntmps31
  go_wp2
  clear hrg
  try go_frame
  go_loopg [] 15 (fun kq wr => ∃ (pos : Nat), Aside0 (kq + pos = 15 ∧ pos ≤ 14) ∧ Aside0 ((spL.drop pos).contains c = r) ∧ Aside0 (wr.heap[w.heap.size]? = some (.stringIter spS pos)) ∧ Aside0 (Below w.heap.size w wr))
  case atStart => exact ⟨0, ⟨by omega⟩, HR, HI, HB⟩
  case round =>
    obtain ⟨pos, HK, HA, HI1, HB1⟩ := hrel
    cases gk with
    | zero => have := HK.out; omega
    | succ k1 =>
    by_cases hp : pos < 14
    · have hnx := next_str (P := Tryd.prog) HI1.out (show pos < spS.size from hp) 0
      have HN := Aside0.mk (iter_next (q := pos + (Utf8.decode spS pos).2) (Nat.le_refl _) HI1.out HB1.out)
      obtain ⟨hx, hy⟩ := sp_at pos hp
      have HA' := Aside0.mk ((sp_drop pos hp c).symm.trans HA.out)
      rw [hy] at HN hnx
      rw [hx] at hnx
      generalize Go.ChangeMaps.setBlock wr w.heap.size (.stringIter spS (pos + 1)) = w2 at *
      generalize spL.getD pos 0 = x at *
      by_cases hxc : x = c
      · have hb : (x == c) = true := by simp [hxc]
        have hrr : r = true := by rw [← HA'.out, hb]; rfl
        subst hrr
        clear hx hy
        go_wp2_with (at_next; refine wpList_next_str _ rfl (.tmp 5) rfl _ _ rfl _ hnx ?_)
        go_ret
        exact ⟨rfl, HN.out.2⟩
      · have hb : (x == c) = false := by simp [hxc]
        have HA2 := Aside0.mk (show (spL.drop (pos + 1)).contains c = r by rw [← HA'.out, hb]; rfl)
        clear hx hy
        go_wp2_with (at_next; refine wpList_next_str _ rfl (.tmp 5) rfl _ _ rfl _ hnx ?_)
        go_roundg k1
        case measure => omega
        case rel => exact ⟨pos + 1, ⟨by have := HK.out; omega⟩, HA2, ⟨HN.out.1⟩, ⟨HN.out.2⟩⟩
    · have hp14 : pos = 14 := by have := HK.out; omega
      have hrr : r = false := by rw [← HA.out, hp14]; rfl
      subst hrr
      have hnx := next_str_end (P := Tryd.prog) HI1.out (show ¬ pos < spS.size from hp) 0
      go_wp2_with (at_next; refine wpList_next_str _ rfl (.tmp 5) rfl _ _ rfl _ hnx ?_)
      go_ret
      exact ⟨rfl, HB1.out⟩
theorem cell_lt {w : World} {p : Addr} {v : Value} (h : w.cell? p = some v) : p.block < w.heap.size := by
  unfold World.cell? at h
  cases hk : w.heap[p.block]? with
  | none => rw [hk] at h; cases h
  | some o => exact (Array.getElem?_eq_some_iff.1 hk).1
/-- The tables of the library's decoder, as they are laid. -/
def Tab (w : World) : Prop := Lib.Utf8Tabs 0 1 w
theorem Tab.move {w w' : World} (h : Tab w) (hm : ∀ k, k < 2 → k < w.heap.size → w'.heap[k]? = w.heap[k]?) : Tab w' := by
  have hc : ∀ (p : Addr) v, p.block < 2 → w.cell? p = some v → w'.cell? p = some v := fun p v hp hv => by
    have hlt : p.block < w.heap.size := cell_lt hv
    simp only [World.cell?, hm p.block hp hlt] at hv ⊢
    exact hv
  exact ⟨fun c hc' => hc ⟨0, c, Option.none⟩ _ Nat.two_pos (h.1 c hc'), fun i hi => ⟨hc ⟨1, 2 * i, Option.none⟩ _ Nat.one_lt_two (h.2 i hi).1, hc ⟨1, 2 * i + 1, Option.none⟩ _ Nat.one_lt_two (h.2 i hi).2⟩⟩
theorem Tab.below {w w' : World} (h : Tab w) (hb : Below w.heap.size w w') : Tab w' := h.move (fun k _ hk => hb.block k hk)
/-- A reader in memory. -/
structure Rd (w : World) (b : Nat) (s : ByteArray) (at_ d sz : Nat) : Prop where
  blk : w.heap[b]? = some (.cells #[.string s, .int .i64 at_, .int .i64 d, .int .i64 sz] 48 (0, 0))
  tab : Tab w
  two : 2 ≤ b
  short : s.size ≤ 256
  le : at_ ≤ s.size
theorem Rd.below {w w' : World} {b : Nat} {s : ByteArray} {at_ d sz : Nat} (h : Rd w b s at_ d sz) (hb : Below w.heap.size w w') : Rd w' b s at_ d sz :=
  ⟨(hb.block b (Array.getElem?_eq_some_iff.1 h.blk).1).trans h.blk, h.tab.below hb, h.two, h.short, h.le⟩
theorem Rd.lt {w : World} {b : Nat} {s : ByteArray} {at_ d sz : Nat} (h : Rd w b s at_ d sz) : b < w.heap.size := (Array.getElem?_eq_some_iff.1 h.blk).1
theorem Rd.cell {w : World} {b : Nat} {s : ByteArray} {at_ d sz : Nat} (h : Rd w b s at_ d sz) : w.cell? ⟨b, 0, none⟩ = some (.string s) ∧ w.cell? ⟨b, 1, none⟩ = some (.int .i64 at_) ∧ w.cell? ⟨b, 2, none⟩ = some (.int .i64 d) ∧ w.cell? ⟨b, 3, none⟩ = some (.int .i64 sz) :=
  ⟨(blk_cell h.blk 0).trans rfl, (blk_cell h.blk 1).trans rfl, (blk_cell h.blk 2).trans rfl, (blk_cell h.blk 3).trans rfl⟩
theorem Rd.frozen {w : World} {b : Nat} {s : ByteArray} {at_ d sz : Nat} (h : Rd w b s at_ d sz) (o : Nat) : w.frozen? ⟨b, o, none⟩ = false := by simp [World.frozen?, h.blk]
/-- The fault that a reader tells. -/
def flt (at_ : Nat) (e : Int) : List PanicEntry := [{ v := .iface 50 (.agg #[.int .i64 at_, .int .i64 e]), recovered := false }]
set_option maxHeartbeats 1000000 in
set_option maxRecDepth 100000 in
theorem bad_calls {w : World} {b : Nat} {s : ByteArray} {at_ d sz : Nat} (h : Rd w b s at_ d sz) (e : Int) : Calls Tryd.prog 23 #[.pointer (some ⟨b, 0, none⟩), .int .i64 e] w fun x w' => x = .panicked (flt at_ e) ∧ w' = w := by
  obtain ⟨c0, c1, c2, c3⟩ := h.cell
  go_enter Tryd.func23, Tryd.ntmps23
  go_wp2
  exact ⟨rfl, rfl, rfl⟩
/-- What is left of a text from a place on. -/
def subS (s : ByteArray) (i : Nat) : ByteArray := s.extract i s.size
/-- The rune at a place; -1: behind the end; none: there stands none. -/
def peekF (s : ByteArray) (i : Nat) : Option Int := if s.size ≤ i then some (-1) else if (Lib.decodeGo (subS s i)).1 = 65533 ∧ (Lib.decodeGo (subS s i)).2 < 2 then none else some (Lib.decodeGo (subS s i)).1
set_option maxHeartbeats 1000000 in
set_option maxRecDepth 100000 in
theorem peek_end {w : World} {b : Nat} {s : ByteArray} {at_ d sz : Nat} (h : Rd w b s at_ d sz) (he : s.size ≤ at_) : Calls Tryd.prog 36 #[.pointer (some ⟨b, 0, none⟩)] w fun x w' => x = .returned (.int .i32 (-1)) ∧ Below w.heap.size w w' := by
  obtain ⟨c0, c1, c2, c3⟩ := h.cell
  have he' : (at_ : Int) ≥ (s.size : Int) := by omega
  go_enter Tryd.func36, Tryd.ntmps36
  go_wp2_with (fail)
  go_quiet (fail)
  go_wp2_with (fail)
  go_ret
  exact ⟨rfl, pw_below_drewN (Below.refl _ _) _⟩
def peek.T3 : Bool × List (List Nat × List Nat) := (true, [([], []), ([0], [0]), ([1], [1]), ([2], [2]), ([], []), ([4], [4]), ([5], [5]), ([6], [6]), ([3, 7], [3, 7]), ([8], [8]), ([9], [9]), ([10], [10]), ([10], [10]), ([11, 9, 0, 1, 2, 3, 4, 5, 6, 7, 8, 9, 10, 11], [11]), ([12, 13, 0, 1, 2, 3, 4, 5, 6, 7, 8, 9, 10, 11, 12, 13], [12])])
def peek.B3 : List Nat := [0, 1, 3, 7, 0, 16, 48, 112, 255, 511, 1023, 2047, 2047, 4095, 16383]
theorem peek.tab3 : rtab .any (opsOf Tryd.f36 3) = peek.T3 := by kernel_rfl
theorem peek.bits3 : waitsOk peek.T3.2 peek.B3 = true := by kernel_rfl
/-- The library's decoder at what is left of a text. -/
theorem dec_calls {w : World} (h : Tab w) (t : ByteArray) : Calls Tryd.prog 47 #[.string t] w fun x w' => x = .returned (.tuple #[.int .i32 (Lib.decodeGo t).1, .int .i64 (Lib.decodeGo t).2]) ∧ Below w.heap.size w w' :=
  Any.utf8_DecodeRuneInString L.decL t w h
set_option maxHeartbeats 1000000 in
set_option maxRecDepth 100000 in
theorem peek_in {w : World} {b : Nat} {s : ByteArray} {at_ d sz : Nat} (h : Rd w b s at_ d sz) (he : ¬ s.size ≤ at_) : Calls Tryd.prog 36 #[.pointer (some ⟨b, 0, none⟩)] w fun x w' => Below w.heap.size w w' ∧ x = (if (Lib.decodeGo (subS s at_)).1 = 65533 ∧ (Lib.decodeGo (subS s at_)).2 < 2 then .panicked (flt at_ 8) else .returned (.int .i32 (Lib.decodeGo (subS s at_)).1)) := by
  obtain ⟨c0, c1, c2, c3⟩ := h.cell
  have he' : ¬ ((at_ : Int) ≥ (s.size : Int)) := by omega
  have HH := Aside0.mk h
  have hle : at_ ≤ s.size := h.le
  clear h
  obtain ⟨X, hX⟩ : ∃ X, X = (if (Lib.decodeGo (subS s at_)).1 = 65533 ∧ (Lib.decodeGo (subS s at_)).2 < 2 then Ending.panicked (flt at_ 8) else .returned (.int .i32 (Lib.decodeGo (subS s at_)).1)) := ⟨_, rfl⟩
  rw [← hX]
  have HX := Aside0.mk hX
  clear hX
  go_enter Tryd.func36, Tryd.ntmps36
  go_wp2_with (fail)
  go_quiet (fail)
  go_wp2_with (fail)
  have HW := Aside0.mk (HH.out.below (pw_below_drewN (Below.refl _ _) nq))
  have HB := Aside0.mk (pw_below_drewN (Below.refl w.heap.size w) nq)
  generalize w.drewN nq = W1 at *
  clear c0 c1 c2 c3
  refine start_ (n := 15) (S := fun w' => w'.cell? ⟨b, 0, none⟩ = some (.string s) ∧ w'.cell? ⟨b, 1, none⟩ = some (.int .i64 at_)) (ds := []) #[false, false, false, false, false, false, false, false, false, false, false, false, false, false, false] (by kernel_rfl) rfl rfl ⟨(HW.out.below (below_drew1 (Below.refl _ _))).cell.1, (HW.out.below (below_drew1 (Below.refl _ _))).cell.2.1⟩ (fun hHeld => ?_); refine with_tabW peek.tab3 peek.bits3 (fun HT_ HW_ => ?_)
  have HW0 := Aside0.mk (HW.out.below (below_drew1 (Below.refl _ _)))
  have HB0 := Aside0.mk (below_drew1 HB.out)
  generalize W1.drew = W0 at *
  refine pure_ (i := 0) (N := some 16) (v := ?_) (a' := ?_) #[true, false, false, false, false, false, false, false, false, false, false, false, false, false, false] rfl rfl (any_of HT_.out (by kernel_rfl)) (fun _ _ _ h => h) (Or.inl ⟨by rfl, ?_⟩) ?_ ?_
  rotate_left
  · intro w'
    go_simp
    with_reducible rfl
  rotate_left
  · simp only [Act.put, List.setIfInBounds_toArray, List.set_cons_zero, List.set_cons_succ, i64_w, i32_w, xu32_w, xu8_w]
    rfl
  refine pure_ (i := 1) (N := some 17) (v := ?_) (a' := ?_) #[true, true, false, false, false, false, false, false, false, false, false, false, false, false, false] rfl rfl (any_of HT_.out (by kernel_rfl)) (fun _ _ _ h => h) (Or.inl ⟨by rfl, ?_⟩) ?_ ?_
  rotate_left
  · intro w'
    go_simp
    with_reducible rfl
  rotate_left
  · simp only [Act.put, List.setIfInBounds_toArray, List.set_cons_zero, List.set_cons_succ, i64_w, i32_w, xu32_w, xu8_w]
    rfl
  refine pure_ (i := 2) (N := some 18) (v := ?_) (a' := ?_) #[true, true, true, false, false, false, false, false, false, false, false, false, false, false, false] rfl rfl (any_of HT_.out (by kernel_rfl)) (fun _ _ _ h => h) (Or.inl ⟨by rfl, ?_⟩) ?_ ?_
  rotate_left
  · intro w'
    go_simp
    with_reducible rfl
  rotate_left
  · simp only [Act.put, List.setIfInBounds_toArray, List.set_cons_zero, List.set_cons_succ, i64_w, i32_w, xu32_w, xu8_w]
    rfl
  refine pure_ (i := 4) (N := some 20) (v := ?_) (a' := ?_) #[true, true, true, false, true, false, false, false, false, false, false, false, false, false, false] rfl rfl (any_of HT_.out (by kernel_rfl)) (fun _ _ _ h => h) (Or.inl ⟨by rfl, ?_⟩) ?_ ?_
  rotate_left
  · intro w'
    go_simp
    with_reducible rfl
  rotate_left
  · simp only [Act.put, List.setIfInBounds_toArray, List.set_cons_zero, List.set_cons_succ, i64_w, i32_w, xu32_w, xu8_w]
    rfl
  refine pure_ (i := 5) (N := some 21) (v := ?_) (a' := ?_) #[true, true, true, false, true, true, false, false, false, false, false, false, false, false, false] rfl rfl (any_of HT_.out (by kernel_rfl)) (fun _ _ _ h => h) (Or.inl ⟨by rfl, ?_⟩) ?_ ?_
  rotate_left
  · intro w'
    go_simp
    with_reducible rfl
  rotate_left
  · simp only [Act.put, List.setIfInBounds_toArray, List.set_cons_zero, List.set_cons_succ, i64_w, i32_w, xu32_w, xu8_w]
    rfl
  refine pure_ (i := 6) (N := some 22) (v := ?_) (a' := ?_) #[true, true, true, false, true, true, true, false, false, false, false, false, false, false, false] rfl rfl (any_of HT_.out (by kernel_rfl)) (fun _ _ _ h => h) (Or.inl ⟨by rfl, ?_⟩) ?_ ?_
  rotate_left
  · intro w'
    go_simp
    with_reducible rfl
  rotate_left
  · simp only [Act.put, List.setIfInBounds_toArray, List.set_cons_zero, List.set_cons_succ, i64_w, i32_w, xu32_w, xu8_w]
    rfl
  refine take_ (i := 3) (N := some 19) (v := ?_) (a' := ?_) #[true, true, true, true, true, true, true, false, false, false, false, false, false, false, false] rfl rfl (take_ofW HT_.out HW_.out (by kernel_rfl)) (fun _ _ _ h => h) (Or.inl ⟨by rfl, ?_⟩) hHeld ?_ ?_
  rotate_left
  · rintro w' ⟨s0, s1⟩
    go_simp
    with_reducible rfl
  rotate_left
  · simp only [Act.put, List.setIfInBounds_toArray, List.set_cons_zero, List.set_cons_succ, i64_w, i32_w, xu32_w, xu8_w]
    rfl
  refine take_ (i := 7) (N := some 23) (v := ?_) (a' := ?_) #[true, true, true, true, true, true, true, true, false, false, false, false, false, false, false] rfl rfl (take_ofW HT_.out HW_.out (by kernel_rfl)) (fun _ _ _ h => h) (Or.inl ⟨by rfl, ?_⟩) hHeld ?_ ?_
  rotate_left
  · rintro w' ⟨s0, s1⟩
    go_simp
    with_reducible rfl
  rotate_left
  · simp only [Act.put, List.setIfInBounds_toArray, List.set_cons_zero, List.set_cons_succ, i64_w, i32_w, xu32_w, xu8_w]
    rfl
  refine pure_ (i := 8) (N := some 24) (v := ?_) (a' := ?_) #[true, true, true, true, true, true, true, true, true, false, false, false, false, false, false] rfl rfl (any_of HT_.out (by kernel_rfl)) (fun _ _ _ h => h) (Or.inl ⟨by rfl, ?_⟩) ?_ ?_
  rotate_left
  · intro w'
    go_simp
    with_reducible rfl
  rotate_left
  · simp only [Act.put, List.setIfInBounds_toArray, List.set_cons_zero, List.set_cons_succ, i64_w, i32_w, xu32_w, xu8_w]
    rfl
  refine one_ (i := 9) (N := some 25) #[true, true, true, true, true, true, true, true, true, true, false, false, false, false, false] rfl rfl (one_of HT_.out (by kernel_rfl)) (by decide) (fun K hK => ?_)
  refine goes_ Tryd.func47 (by kernel_rfl) rfl #[.string (subS s at_)] (by rfl) rfl rfl (by (try simp only [List.map_toArray, List.map_cons, List.map_nil]); first | done | rfl) ?_
  with_reducible refine (dec_calls HW0.out.tab (subS s at_)).mono ?_
  rintro e w2 ⟨rfl, hb⟩
  refine ⟨_, rfl, ?_⟩
  have HW2 := Aside0.mk (HW0.out.below hb)
  have HB2 := Aside0.mk (HB0.out.trans (hb.mono HB0.out.size))
  clear hb
  refine hK.out _ _ ⟨HW2.out.cell.1, HW2.out.cell.2.1⟩ (fun hHeld => ?_)
  clear hK K
  refine norm_ (a' := ?_) ?_ ?_
  rotate_left
  · show Act.put _ (some 25) _ = _
    simp only [Act.put, List.setIfInBounds_toArray, List.set_cons_zero, List.set_cons_succ, i64_w, i32_w, xu32_w, xu8_w]
    rfl
  refine pure_ (i := 10) (N := some 15) (v := ?_) (a' := ?_) #[true, true, true, true, true, true, true, true, true, true, true, false, false, false, false] rfl rfl (any_of HT_.out (by kernel_rfl)) (fun _ _ _ h => h) (Or.inl ⟨by rfl, ?_⟩) ?_ ?_
  rotate_left
  · intro w'
    go_simp
    with_reducible rfl
  rotate_left
  · simp only [Act.put, List.setIfInBounds_toArray, List.set_cons_zero, List.set_cons_succ, i64_w, i32_w, xu32_w, xu8_w]
    rfl
  refine pure_ (i := 11) (N := some 26) (v := ?_) (a' := ?_) #[true, true, true, true, true, true, true, true, true, true, true, true, false, false, false] rfl rfl (any_of HT_.out (by kernel_rfl)) (fun _ _ _ h => h) (Or.inl ⟨by rfl, ?_⟩) ?_ ?_
  rotate_left
  · intro w'
    go_simp
    with_reducible rfl
  rotate_left
  · simp only [Act.put, List.setIfInBounds_toArray, List.set_cons_zero, List.set_cons_succ, i64_w, i32_w, xu32_w, xu8_w]
    rfl
  refine pure_ (i := 12) (N := some 27) (v := ?_) (a' := ?_) #[true, true, true, true, true, true, true, true, true, true, true, true, true, false, false] rfl rfl (any_of HT_.out (by kernel_rfl)) (fun _ _ _ h => h) (Or.inl ⟨by rfl, ?_⟩) ?_ ?_
  rotate_left
  · intro w'
    go_simp
    with_reducible rfl
  rotate_left
  · simp only [Act.put, List.setIfInBounds_toArray, List.set_cons_zero, List.set_cons_succ, i64_w, i32_w, xu32_w, xu8_w]
    rfl
  refine pure_ (i := 13) (N := some 3) (v := ?_) (a' := ?_) #[true, true, true, true, true, true, true, true, true, true, true, true, true, true, false] rfl rfl (any_of HT_.out (by kernel_rfl)) (fun _ _ _ h => h) (Or.inl ⟨by rfl, ?_⟩) ?_ ?_
  rotate_left
  · intro w'
    go_simp
    with_reducible rfl
  rotate_left
  · simp only [Act.put, List.setIfInBounds_toArray, List.set_cons_zero, List.set_cons_succ, i64_w, i32_w, xu32_w, xu8_w]
    rfl
  refine pure_ (i := 14) (N := some 4) (v := ?_) (a' := ?_) #[true, true, true, true, true, true, true, true, true, true, true, true, true, true, true] rfl rfl (any_of HT_.out (by kernel_rfl)) (fun _ _ _ h => h) (Or.inl ⟨by rfl, ?_⟩) ?_ ?_
  rotate_left
  · intro w'
    go_simp
    with_reducible rfl
  rotate_left
  · simp only [Act.put, List.setIfInBounds_toArray, List.set_cons_zero, List.set_cons_succ, i64_w, i32_w, xu32_w, xu8_w]
    rfl
  refine done_ (done_of HT_.out (by kernel_rfl)) ?_
  clear hle
  generalize (Lib.decodeGo (subS s at_)).1 = R at *
  generalize (Lib.decodeGo (subS s at_)).2 = K at *
  by_cases c1 : R = 65533
  · subst c1
    by_cases c2 : K < 2
    · have c3 : (K : Int) < 2 := by omega
      have hX := HX.out
      rw [if_pos ⟨rfl, c2⟩] at hX
      subst hX
      go_wp2_with (go_at_call 23; (with_reducible refine (bad_calls HW2.out 8).mono ?_); rintro e w' ⟨rfl, rfl⟩)
      exact ⟨rfl, HB2.out, rfl⟩
    · have c3 : ¬ (K : Int) < 2 := by omega
      have hX := HX.out
      rw [if_neg (fun h => c2 h.2)] at hX
      subst hX
      go_wp2_with (fail)
      go_ret
      exact ⟨HB2.out, rfl⟩
  · have c3 : ((R : Int) == 65533) = false := by rw [beq_eq_false_iff_ne]; omega
    have hX := HX.out
    rw [if_neg (fun h => c1 h.1)] at hX
    subst hX
    clear c1
    go_wp2_with (fail)
    go_ret
    exact ⟨HB2.out, rfl⟩
theorem peek_ok {w : World} {b : Nat} {s : ByteArray} {at_ d sz : Nat} (h : Rd w b s at_ d sz) {c : Int} (hc : peekF s at_ = some c) : Calls Tryd.prog 36 #[.pointer (some ⟨b, 0, none⟩)] w fun x w' => x = .returned (.int .i32 c) ∧ Below w.heap.size w w' := by
  unfold peekF at hc
  by_cases he : s.size ≤ at_
  · rw [if_pos he] at hc
    obtain rfl := Option.some.inj hc
    exact peek_end h he
  · rw [if_neg he] at hc
    refine (peek_in h he).mono fun x w' ⟨hb, hx⟩ => ⟨?_, hb⟩
    rw [hx]
    split at hc
    · cases hc
    · rename_i hn
      obtain rfl := Option.some.inj hc
      rw [if_neg hn]
theorem peek_no {w : World} {b : Nat} {s : ByteArray} {at_ d sz : Nat} (h : Rd w b s at_ d sz) (hc : peekF s at_ = none) : Calls Tryd.prog 36 #[.pointer (some ⟨b, 0, none⟩)] w fun x w' => x = .panicked (flt at_ 8) ∧ Below w.heap.size w w' := by
  unfold peekF at hc
  by_cases he : s.size ≤ at_
  · rw [if_pos he] at hc; cases hc
  · rw [if_neg he] at hc
    refine (peek_in h he).mono fun x w' ⟨hb, hx⟩ => ⟨?_, hb⟩
    rw [hx]
    split at hc
    · rename_i hn
      rw [if_pos hn]
    · cases hc
/-- How many bytes a rune has. -/
def rl (c : Int) : Nat := if c ≤ 127 then 1 else if c ≤ 2047 then 2 else if c ≤ 65535 then 3 else 4
/-- A rune that a text may have. -/
def Rune (c : Int) : Prop := 0 ≤ c ∧ c ≤ 1114111 ∧ ¬ (55296 ≤ c ∧ c ≤ 57343)
theorem rl_f {c : Int} (h : Rune c) : utf8_RuneLen.f 2 c = some ((rl c : Nat) : Int) := by
  obtain ⟨h0, h1, h2⟩ := h
  unfold utf8_RuneLen.f rl
  rw [if_neg (by omega)]
  by_cases a : c ≤ 127
  · rw [if_pos a, if_pos a]; rfl
  rw [if_neg a, if_neg a]
  by_cases a : c ≤ 2047
  · rw [if_pos a, if_pos a]; rfl
  rw [if_neg a, if_neg a]
  have hj : ∀ x, x = false → utf8_RuneLen.j0 2 c x = some (((if c ≤ 65535 then 3 else 4 : Nat)) : Int) := by
    rintro x rfl
    show (if (false : Bool) = true then some (-1) else if c ≤ 65535 then some 3 else if c ≤ 1114111 then some 4 else some (-1)) = _
    rw [if_neg Bool.false_ne_true]
    by_cases a : c ≤ 65535
    · rw [if_pos a, if_pos a]; rfl
    · rw [if_neg a, if_neg a, if_pos h1]; rfl
  by_cases a : 55296 ≤ c
  · rw [if_pos a]; exact hj _ (decide_eq_false (by omega))
  · rw [if_neg a]; exact hj _ rfl
/-- What a reader's step turns: its own block. -/
structure Stp (b : Nat) (w w' : World) : Prop where
  os : w'.os = w.os
  tape : w'.tape = w.tape
  output : w'.output = w.output
  size : w.heap.size ≤ w'.heap.size
  block : ∀ k, k < w.heap.size → k ≠ b → w'.heap[k]? = w.heap[k]?
theorem Stp.refl (b : Nat) (w : World) : Stp b w w := ⟨rfl, rfl, rfl, Nat.le_refl _, fun _ _ _ => rfl⟩
theorem Stp.trans {b : Nat} {w w1 w2 : World} (h : Stp b w w1) (k : Stp b w1 w2) : Stp b w w2 :=
  ⟨k.os.trans h.os, k.tape.trans h.tape, k.output.trans h.output, Nat.le_trans h.size k.size, fun i hi hn => (k.block i (Nat.lt_of_lt_of_le hi h.size) hn).trans (h.block i hi hn)⟩
theorem Stp.of {b : Nat} {w w' : World} (h : Below w.heap.size w w') : Stp b w w' := ⟨h.os, h.tape, h.output, h.size, fun k hk _ => h.block k hk⟩
theorem Stp.set {b : Nat} {w : World} (o : Nat) (v : Value) : Stp b w (w.setCell ⟨b, o, none⟩ v) :=
  ⟨rfl, rfl, rfl, by simp, fun k _ hn => Below.heap_setCell _ _ _ k hn⟩
/-- A reader whose place, depth or size has been turned. -/
theorem Rd.set1 {w : World} {b : Nat} {s : ByteArray} {at_ d sz a2 : Nat} (h : Rd w b s at_ d sz) (hl : a2 ≤ s.size) : Rd (w.setCell ⟨b, 1, none⟩ (.int .i64 a2)) b s a2 d sz :=
  ⟨blk_put h.blk 1 _ rfl, h.tab.move (fun k hk _ => Below.heap_setCell _ _ _ k (fun e => by have e' : k = b := e; have := h.two; omega)), h.two, h.short, hl⟩
theorem Rd.set2 {w : World} {b : Nat} {s : ByteArray} {at_ d sz d2 : Nat} (h : Rd w b s at_ d sz) : Rd (w.setCell ⟨b, 2, none⟩ (.int .i64 d2)) b s at_ d2 sz :=
  ⟨blk_put h.blk 2 _ rfl, h.tab.move (fun k hk _ => Below.heap_setCell _ _ _ k (fun e => by have e' : k = b := e; have := h.two; omega)), h.two, h.short, h.le⟩
theorem Rd.set3 {w : World} {b : Nat} {s : ByteArray} {at_ d sz z2 : Nat} (h : Rd w b s at_ d sz) : Rd (w.setCell ⟨b, 3, none⟩ (.int .i64 z2)) b s at_ d z2 :=
  ⟨blk_put h.blk 3 _ rfl, h.tab.move (fun k hk _ => Below.heap_setCell _ _ _ k (fun e => by have e' : k = b := e; have := h.two; omega)), h.two, h.short, h.le⟩
def skip.T0 : Bool × List (List Nat × List Nat) := (true, [([], []), ([0], [0]), ([1], [1]), ([2], [2]), ([], []), ([4], [4]), ([3, 5], [3, 5]), ([0, 0, 1, 2, 3, 4, 5, 6], [0]), ([7, 0, 1, 2, 3, 4, 5, 6], [7]), ([8, 6, 5, 0, 1, 2, 3, 4, 5, 6], [6, 8])])
def skip.B0 : List Nat := [0, 1, 3, 7, 0, 16, 63, 127, 255, 511]
theorem skip.tab0 : rtab .any (opsOf Tryd.f37 0) = skip.T0 := by kernel_rfl
theorem skip.bits0 : waitsOk skip.T0.2 skip.B0 = true := by kernel_rfl
set_option maxHeartbeats 1000000 in
set_option maxRecDepth 100000 in
theorem skip_calls {w : World} {b : Nat} {s : ByteArray} {at_ d sz : Nat} (h : Rd w b s at_ d sz) {c : Int} (hc : Rune c) (hl : at_ + rl c ≤ s.size) : Calls Tryd.prog 37 #[.pointer (some ⟨b, 0, none⟩), .int .i32 c] w fun x w' => x = .returned (.tuple #[]) ∧ Rd w' b s (at_ + rl c) d sz ∧ Stp b w w' := by
  have hf := rl_f hc
  obtain ⟨n, hn⟩ : ∃ n, rl c = n := ⟨_, rfl⟩
  rw [hn] at hf hl
  rw [hn]
  have HF := Aside0.mk hf
  have HL := Aside0.mk hl
  have HS := Aside0.mk h.short
  have HH := Aside0.mk h
  clear hf hn hc hl h
  go_enter Tryd.func37, Tryd.ntmps37
  go_wp2_with (fail)
  refine start_ (n := 10) (S := fun w' => w'.cell? ⟨b, 1, none⟩ = some (.int .i64 at_)) (ds := [9]) #[false, false, false, false, false, false, false, false, false, false] (by kernel_rfl) rfl rfl (HH.out.below (below_drew1 (Below.refl _ _))).cell.2.1 (fun hHeld => ?_); refine with_tabW skip.tab0 skip.bits0 (fun HT_ HW_ => ?_)
  have HW0 := Aside0.mk (HH.out.below (below_drew1 (Below.refl _ _)))
  have HB0 := Aside0.mk (below_drew1 (Below.refl w.heap.size w))
  generalize w.drew = W0 at *
  refine pure_ (i := 0) (N := some 4) (v := ?_) (a' := ?_) #[true, false, false, false, false, false, false, false, false, false] rfl rfl (any_of HT_.out (by kernel_rfl)) (fun _ _ _ h => h) (Or.inl ⟨by rfl, ?_⟩) ?_ ?_
  rotate_left
  · intro w'
    go_simp
    with_reducible rfl
  rotate_left
  · simp only [Act.put, List.setIfInBounds_toArray, List.set_cons_zero, List.set_cons_succ, i64_w, i32_w, xu32_w, xu8_w]
    rfl
  refine pure_ (i := 1) (N := some 5) (v := ?_) (a' := ?_) #[true, true, false, false, false, false, false, false, false, false] rfl rfl (any_of HT_.out (by kernel_rfl)) (fun _ _ _ h => h) (Or.inl ⟨by rfl, ?_⟩) ?_ ?_
  rotate_left
  · intro w'
    go_simp
    with_reducible rfl
  rotate_left
  · simp only [Act.put, List.setIfInBounds_toArray, List.set_cons_zero, List.set_cons_succ, i64_w, i32_w, xu32_w, xu8_w]
    rfl
  refine pure_ (i := 2) (N := some 6) (v := ?_) (a' := ?_) #[true, true, true, false, false, false, false, false, false, false] rfl rfl (any_of HT_.out (by kernel_rfl)) (fun _ _ _ h => h) (Or.inl ⟨by rfl, ?_⟩) ?_ ?_
  rotate_left
  · intro w'
    go_simp
    with_reducible rfl
  rotate_left
  · simp only [Act.put, List.setIfInBounds_toArray, List.set_cons_zero, List.set_cons_succ, i64_w, i32_w, xu32_w, xu8_w]
    rfl
  refine pure_ (i := 4) (N := some 8) (v := ?_) (a' := ?_) #[true, true, true, false, true, false, false, false, false, false] rfl rfl (any_of HT_.out (by kernel_rfl)) (fun _ _ _ h => h) (Or.inl ⟨by rfl, ?_⟩) ?_ ?_
  rotate_left
  · intro w'
    go_simp
    with_reducible rfl
  rotate_left
  · simp only [Act.put, List.setIfInBounds_toArray, List.set_cons_zero, List.set_cons_succ, i64_w, i32_w, xu32_w, xu8_w]
    rfl
  refine take_ (i := 3) (N := some 7) (v := ?_) (a' := ?_) #[true, true, true, true, true, false, false, false, false, false] rfl rfl (take_ofW HT_.out HW_.out (by kernel_rfl)) (fun _ _ _ h => h) (Or.inl ⟨by rfl, ?_⟩) hHeld ?_ ?_
  rotate_left
  · rintro w' s0
    go_simp
    with_reducible rfl
  rotate_left
  · simp only [Act.put, List.setIfInBounds_toArray, List.set_cons_zero, List.set_cons_succ, i64_w, i32_w, xu32_w, xu8_w]
    rfl
  refine one_ (i := 5) (N := some 9) #[true, true, true, true, true, true, false, false, false, false] rfl rfl (one_of HT_.out (by kernel_rfl)) (by decide) (fun K hK => ?_)
  refine goes_ Tryd.func48 (by kernel_rfl) rfl #[.int .i32 c] (by rfl) rfl rfl (by (try simp only [List.map_toArray, List.map_cons, List.map_nil]); first | done | rfl) ?_
  with_reducible refine (utf8_RuneLen.calls 2 c _ _ HF.out).mono ?_
  rintro e w2 ⟨rfl, ⟨nd, rfl⟩⟩
  refine ⟨_, rfl, ?_⟩
  have HW2 := Aside0.mk (HW0.out.below (pw_below_drewN (Below.refl _ _) nd))
  have HB2 := Aside0.mk (pw_below_drewN HB0.out nd)
  generalize W0.drewN nd = w2 at *
  refine hK.out _ _ HW2.out.cell.2.1 (fun hHeld => ?_)
  clear hK K
  refine norm_ (a' := ?_) ?_ ?_
  rotate_left
  · show Act.put _ (some 9) _ = _
    simp only [Act.put, List.setIfInBounds_toArray, List.set_cons_zero, List.set_cons_succ, i64_w, i32_w, xu32_w, xu8_w]
    rfl
  refine pure_ (i := 6) (N := some 10) (v := ?_) (a' := ?_) #[true, true, true, true, true, true, true, false, false, false] rfl rfl (any_of HT_.out (by kernel_rfl)) (fun _ _ _ h => h) (Or.inl ⟨by rfl, ?_⟩) ?_ ?_
  rotate_left
  · intro w'
    go_simp
    with_reducible rfl
  rotate_left
  · simp only [Act.put, List.setIfInBounds_toArray, List.set_cons_zero, List.set_cons_succ, i64_w, i32_w, xu32_w, xu8_w]
    rfl
  refine pure_ (i := 7) (N := some 11) (v := ?_) (a' := ?_) #[true, true, true, true, true, true, true, true, false, false] rfl rfl (any_of HT_.out (by kernel_rfl)) (fun _ _ _ h => h) (Or.inl ⟨by rfl, ?_⟩) ?_ ?_
  rotate_left
  · intro w'
    go_simp
    with_reducible rfl
  rotate_left
  · simp only [Act.put, List.setIfInBounds_toArray, List.set_cons_zero, List.set_cons_succ, i64_w, i32_w, xu32_w, xu8_w]
    rfl
  refine pure_ (i := 8) (N := some 12) (v := ?_) (a' := ?_) #[true, true, true, true, true, true, true, true, true, false] rfl rfl (any_of HT_.out (by kernel_rfl)) (fun _ _ _ h => h) (Or.inl ⟨by rfl, ?_⟩) ?_ ?_
  rotate_left
  · intro w'
    go_simp
    with_reducible rfl
  rotate_left
  · simp only [Act.put, List.setIfInBounds_toArray, List.set_cons_zero, List.set_cons_succ, i64_w, i32_w, xu32_w, xu8_w]
    rfl
  refine last_ (i := 9) (N := none) #[true, true, true, true, true, true, true, true, true, true] rfl rfl (one_of HT_.out (by kernel_rfl)) (by decide) (fun K hK => ?_)
  have c1 := HW2.out.cell.2.1
  have f1 := HW2.out.frozen 1
  refine skip_ (w1 := w2.setCell ⟨b, 1, none⟩ (.int .i64 (wrap64 (at_ + n)))) (by rfl) rfl (by first | (go_simp; done) | (go_simp; rfl)) ?_
  refine hK.out _ _ ?_
  clear hK K
  refine done_ (done_of HT_.out (by kernel_rfl)) ?_
  have hw : wrap64 ((at_ : Int) + n) = ((at_ + n : Nat) : Int) := by
    have h1 := HL.out
    have h2 := HS.out
    unfold wrap64
    omega
  rw [hw]
  go_end0
  refine ⟨rfl, HW2.out.set1 HL.out, ?_⟩
  exact (Stp.of HB2.out).trans (Stp.set 1 _)
end Go.Proofs.YtmfpikhmeacnbaaDoor.X
