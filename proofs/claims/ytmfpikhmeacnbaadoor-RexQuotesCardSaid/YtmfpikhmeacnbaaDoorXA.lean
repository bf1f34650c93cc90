import Derived.Test.YtmfpikhmeacnbaaDoorQ1
import Derived.Test.YtmfpikhmeacnbaaDoorS1
import Derived.Laws.RangeAny
import Derived.Maps.RangeWalk
import Derived.MapKept
import Derived.Laws.IdiomRangeMap
import Derived.Maps.Own
import Derived.Lib.SliceRun
import Derived.LoopN
import Derived.WalkLawsBesides
/- Patterns by hand: special, bad, peek, skip (mkX1.py). -/
namespace Go.Proofs.YtmfpikhmeacnbaaDoor.X
open Go.RowKit Go.Proofs.YtmfpikhmeacnbaaDoor.Q Go.Proofs.YtmfpikhmeacnbaaDoorW.PrintWords Go.Proofs.YtmfpikhmeacnbaaDoorW.PrintLast Go.Proofs.YtmfpikhmeacnbaaDoorW.PrintMore
set_option linter.unusedVariables false
set_option linter.unusedSimpArgs false
theorem next_str {P : Program} {w : World} {r : Nat} {s : ByteArray} {pos : Nat} (hr : w.heap[r]? = some (.stringIter s pos)) (h : pos < s.size) (ty : TypeId) :
    (Instr.next (.pointer (some ⟨r, 0, none⟩)) true ty).run P w = .ok (.tuple #[.bool true, .int .i64 pos, .int .i32 (Utf8.decode s pos).1]) (Go.ChangeMaps.setBlock w r (.stringIter s (pos + (Utf8.decode s pos).2))) := by
  simp only [Instr.next, getObj, setObj, Sem.run_bind, Sem.run, hr, Result.andThen, h, if_true]
  simp [goInt, Go.ChangeMaps.setBlock]
theorem next_str_end {P : Program} {w : World} {r : Nat} {s : ByteArray} {pos : Nat} (hr : w.heap[r]? = some (.stringIter s pos)) (h : ¬ pos < s.size) (ty : TypeId) :
    (Instr.next (.pointer (some ⟨r, 0, none⟩)) true ty).run P w = .ok (.tuple #[.bool false]) w := by
  simp [Instr.next, getObj, Sem.run, hr, h]
theorem wpList_next_str {P : Program} (w : World) {ops : Array Oper} {rest : List Oper} {o : Oper} {a : Act} {Q : Exit → Act → World → Prop}
    (hg : o.guard = none) (it : Operand) (hop : o.op = Op.next it true) (M V : Value) (hm : a.eval it = M) (w1 : World)
    (hrun : (Instr.next M true o.type).run P w = .ok V w1) (hK : wpList P ops Q rest (a.put o.dst V) w1) : wpList P ops Q (o :: rest) a w := by
  refine wpList_plain hg fun K' hK' => ?_
  unfold Oper.wp
  simp [execOp, hop, hm, hrun, Result.andThen]
  exact hK' _ _ hK
/-- An iterator over a text goes on. -/
theorem iter_next {w wr : World} {b : Nat} {s : ByteArray} {pos q : Nat} (hb : w.heap.size ≤ b) (hi : wr.heap[b]? = some (.stringIter s pos)) (hB : Below w.heap.size w wr) :
    (Go.ChangeMaps.setBlock wr b (.stringIter s q)).heap[b]? = some (.stringIter s q) ∧ Below w.heap.size w (Go.ChangeMaps.setBlock wr b (.stringIter s q)) := by
  have HS := MapKept.heap_set (o' := .stringIter s q) hi
  exact ⟨HS.1, hB.os, hB.tape, hB.output, by simpa [Go.ChangeMaps.setBlock] using hB.size, fun k hk => ((MapKept.heap_set (o' := .stringIter s q) hi).2 k (by omega)).trans (hB.block k hk)⟩
/-- The runes that have a meaning of their own. -/
def spL : List Int := [46, 42, 43, 63, 40, 41, 91, 93, 123, 125, 124, 94, 36, 92]
def spS : ByteArray := ⟨#[46, 42, 43, 63, 40, 41, 91, 93, 123, 125, 124, 94, 36, 92]⟩
def special (c : Int) : Bool := spL.contains c
theorem sp_at : ∀ pos, pos < 14 → ((Utf8.decode spS pos).1 : Int) = spL.getD pos 0 ∧ (Utf8.decode spS pos).2 = 1 := by decide +kernel
theorem sp_drop (pos : Nat) (h : pos < 14) (c : Int) : (spL.drop pos).contains c = ((spL.getD pos 0 == c) || (spL.drop (pos + 1)).contains c) := by
  have hl : pos < spL.length := h
  rw [List.drop_eq_getElem_cons hl, List.contains_cons, List.getD_eq_getElem?_getD, List.getElem?_eq_getElem hl]
  generalize spL[pos] = y
  by_cases e : c = y
  · subst e; simp
  · have e' : ¬ y = c := fun h => e h.symm
    rw [Option.getD_some, beq_eq_false_iff_ne.2 e, beq_eq_false_iff_ne.2 e']
set_option maxHeartbeats 1000000 in
set_option maxRecDepth 100000 in
theorem special_calls (c : Int) (w : World) : Calls Tryd.prog 31 #[.int .i32 c] w fun e w' => e = .returned (.bool (special c)) ∧ Below w.heap.size w w' := by
  obtain ⟨r, hr⟩ : ∃ r, special c = r := ⟨_, rfl⟩
  rw [hr]
  have HR := Aside0.mk (show (spL.drop 0).contains c = r from hr)
  clear hr
  obtain ⟨w1, hw1⟩ : ∃ w1, w1 = w.iter spS 0 := ⟨_, rfl⟩
  have hrg : (Instr.range 9 (.string ⟨#[46, 42, 43, 63, 40, 41, 91, 93, 123, 125, 124, 94, 36, 92]⟩)).run Tryd.prog w = .ok (.pointer (some ⟨w.heap.size, 0, none⟩)) w1 := by rw [hw1]; exact run_range_string w 9 spS Tryd.underlying9
  have HI := Aside0.mk (show w1.heap[w.heap.size]? = some (.stringIter spS 0) by rw [hw1]; exact World.iter_heap w spS 0)
  have HB := Aside0.mk (show Below w.heap.size w w1 by rw [hw1]; exact below_alloc (Below.refl _ _) _)
  clear hw1
  go_enter Tryd.func31, Tryd.ntmps31
  go_wp2
  clear hrg
  try go_frame
  go_loopg [] 15 (fun kq wr => ∃ (pos : Nat), Aside0 (kq + pos = 15 ∧ pos ≤ 14) ∧ Aside0 ((spL.drop pos).contains c = r) ∧ Aside0 (wr.heap[w.heap.size]? = some (.stringIter spS pos)) ∧ Aside0 (Below w.heap.size w wr))
  case atStart => exact ⟨0, ⟨by omega⟩, HR, HI, HB⟩
  case round =>
    obtain ⟨pos, HK, HA, HI1, HB1⟩ := hrel
    cases gk with
    | zero => have := HK.out; omega
    | succ k1 =>
    by_cases hp : pos < 14
    · have hnx := next_str (P := Tryd.prog) HI1.out (show pos < spS.size from hp) 0
      have HN := Aside0.mk (iter_next (q := pos + (Utf8.decode spS pos).2) (Nat.le_refl _) HI1.out HB1.out)
      obtain ⟨hx, hy⟩ := sp_at pos hp
      have HA' := Aside0.mk ((sp_drop pos hp c).symm.trans HA.out)
      rw [hy] at HN hnx
      rw [hx] at hnx
      generalize Go.ChangeMaps.setBlock wr w.heap.size (.stringIter spS (pos + 1)) = w2 at *
      generalize spL.getD pos 0 = x at *
      by_cases hxc : x = c
      · have hb : (x == c) = true := by simp [hxc]
        have hrr : r = true := by rw [← HA'.out, hb]; rfl
        subst hrr
        clear hx hy
        go_wp2_with (at_next; refine wpList_next_str _ rfl (.tmp 5) rfl _ _ rfl _ hnx ?_)
        go_ret
        exact ⟨rfl, HN.out.2⟩
      · have hb : (x == c) = false := by simp [hxc]
        have HA2 := Aside0.mk (show (spL.drop (pos + 1)).contains c = r by rw [← HA'.out, hb]; rfl)
        clear hx hy
        go_wp2_with (at_next; refine wpList_next_str _ rfl (.tmp 5) rfl _ _ rfl _ hnx ?_)
        go_roundg k1
        case measure => omega
        case rel => exact ⟨pos + 1, ⟨by have := HK.out; omega⟩, HA2, ⟨HN.out.1⟩, ⟨HN.out.2⟩⟩
    · have hp14 : pos = 14 := by have := HK.out; omega
      have hrr : r = false := by rw [← HA.out, hp14]; rfl
      subst hrr
      have hnx := next_str_end (P := Tryd.prog) HI1.out (show ¬ pos < spS.size from hp) 0
      go_wp2_with (at_next; refine wpList_next_str _ rfl (.tmp 5) rfl _ _ rfl _ hnx ?_)
      go_ret
      exact ⟨rfl, HB1.out⟩
theorem cell_lt {w : World} {p : Addr} {v : Value} (h : w.cell? p = some v) : p.block < w.heap.size := by
  unfold World.cell? at h
  cases hk : w.heap[p.block]? with
  | none => rw [hk] at h; cases h
  | some o => exact (Array.getElem?_eq_some_iff.1 hk).1
/-- The tables of the library's decoder, as they are laid. -/
def Tab (w : World) : Prop := Lib.Utf8Tabs 0 1 w
theorem Tab.move {w w' : World} (h : Tab w) (hm : ∀ k, k < 2 → k < w.heap.size → w'.heap[k]? = w.heap[k]?) : Tab w' := by
  have hc : ∀ (p : Addr) v, p.block < 2 → w.cell? p = some v → w'.cell? p = some v := fun p v hp hv => by
    have hlt : p.block < w.heap.size := cell_lt hv
    simp only [World.cell?, hm p.block hp hlt] at hv ⊢
    exact hv
  exact ⟨fun c hc' => hc ⟨0, c, Option.none⟩ _ Nat.two_pos (h.1 c hc'), fun i hi => ⟨hc ⟨1, 2 * i, Option.none⟩ _ Nat.one_lt_two (h.2 i hi).1, hc ⟨1, 2 * i + 1, Option.none⟩ _ Nat.one_lt_two (h.2 i hi).2⟩⟩
theorem Tab.below {w w' : World} (h : Tab w) (hb : Below w.heap.size w w') : Tab w' := h.move (fun k _ hk => hb.block k hk)
/-- A reader in memory. -/
structure Rd (w : World) (b : Nat) (s : ByteArray) (at_ d sz : Nat) : Prop where
  blk : w.heap[b]? = some (.cells #[.string s, .int .i64 at_, .int .i64 d, .int .i64 sz] 48 (0, 0))
  tab : Tab w
  two : 2 ≤ b
  short : s.size ≤ 256
  le : at_ ≤ s.size
theorem Rd.below {w w' : World} {b : Nat} {s : ByteArray} {at_ d sz : Nat} (h : Rd w b s at_ d sz) (hb : Below w.heap.size w w') : Rd w' b s at_ d sz :=
  ⟨(hb.block b (Array.getElem?_eq_some_iff.1 h.blk).1).trans h.blk, h.tab.below hb, h.two, h.short, h.le⟩
theorem Rd.lt {w : World} {b : Nat} {s : ByteArray} {at_ d sz : Nat} (h : Rd w b s at_ d sz) : b < w.heap.size := (Array.getElem?_eq_some_iff.1 h.blk).1
theorem Rd.cell {w : World} {b : Nat} {s : ByteArray} {at_ d sz : Nat} (h : Rd w b s at_ d sz) : w.cell? ⟨b, 0, none⟩ = some (.string s) ∧ w.cell? ⟨b, 1, none⟩ = some (.int .i64 at_) ∧ w.cell? ⟨b, 2, none⟩ = some (.int .i64 d) ∧ w.cell? ⟨b, 3, none⟩ = some (.int .i64 sz) :=
  ⟨(blk_cell h.blk 0).trans rfl, (blk_cell h.blk 1).trans rfl, (blk_cell h.blk 2).trans rfl, (blk_cell h.blk 3).trans rfl⟩
theorem Rd.frozen {w : World} {b : Nat} {s : ByteArray} {at_ d sz : Nat} (h : Rd w b s at_ d sz) (o : Nat) : w.frozen? ⟨b, o, none⟩ = false := by simp [World.frozen?, h.blk]
/-- The fault that a reader tells. -/
def flt (at_ : Nat) (e : Int) : List PanicEntry := [{ v := .iface 50 (.agg #[.int .i64 at_, .int .i64 e]), recovered := false }]
set_option maxHeartbeats 1000000 in
set_option maxRecDepth 100000 in
theorem bad_calls {w : World} {b : Nat} {s : ByteArray} {at_ d sz : Nat} (h : Rd w b s at_ d sz) (e : Int) : Calls Tryd.prog 23 #[.pointer (some ⟨b, 0, none⟩), .int .i64 e] w fun x w' => x = .panicked (flt at_ e) ∧ w' = w := by
  obtain ⟨c0, c1, c2, c3⟩ := h.cell
  go_enter Tryd.func23, Tryd.ntmps23
  go_wp2
  exact ⟨rfl, rfl, rfl⟩
/-- What is left of a text from a place on. -/
def subS (s : ByteArray) (i : Nat) : ByteArray := s.extract i s.size
/-- The rune at a place; -1: behind the end; none: there stands none. -/
def peekF (s : ByteArray) (i : Nat) : Option Int := if s.size ≤ i then some (-1) else if (Lib.decodeGo (subS s i)).1 = 65533 ∧ (Lib.decodeGo (subS s i)).2 < 2 then none else some (Lib.decodeGo (subS s i)).1
set_option maxHeartbeats 1000000 in
set_option maxRecDepth 100000 in
theorem peek_end {w : World} {b : Nat} {s : ByteArray} {at_ d sz : Nat} (h : Rd w b s at_ d sz) (he : s.size ≤ at_) : Calls Tryd.prog 36 #[.pointer (some ⟨b, 0, none⟩)] w fun x w' => x = .returned (.int .i32 (-1)) ∧ Below w.heap.size w w' := by
  obtain ⟨c0, c1, c2, c3⟩ := h.cell
  have he' : (at_ : Int) ≥ (s.size : Int) := by omega
  go_enter Tryd.func36, Tryd.ntmps36
  go_wp2_with (fail)
  go_quiet (fail)
  go_wp2_with (fail)
  go_ret
  exact ⟨rfl, pw_below_drewN (Below.refl _ _) _⟩
def peek.T3 : Bool × List (List Nat × List Nat) := (true, [([], []), ([0], [0]), ([1], [1]), ([2], [2]), ([], []), ([4], [4]), ([5], [5]), ([6], [6]), ([3, 7], [3, 7]), ([8], [8]), ([9], [9]), ([10], [10]), ([10], [10]), ([11, 9, 0, 1, 2, 3, 4, 5, 6, 7, 8, 9, 10, 11], [11]), ([12, 13, 0, 1, 2, 3, 4, 5, 6, 7, 8, 9, 10, 11, 12, 13], [12])])
def peek.B3 : List Nat := [0, 1, 3, 7, 0, 16, 48, 112, 255, 511, 1023, 2047, 2047, 4095, 16383]
theorem peek.tab3 : rtab .any (opsOf Tryd.f36 3) = peek.T3 := by kernel_rfl
theorem peek.bits3 : waitsOk peek.T3.2 peek.B3 = true := by kernel_rfl
/-- The library's decoder at what is left of a text. -/
theorem dec_calls {w : World} (h : Tab w) (t : ByteArray) : Calls Tryd.prog 47 #[.string t] w fun x w' => x = .returned (.tuple #[.int .i32 (Lib.decodeGo t).1, .int .i64 (Lib.decodeGo t).2]) ∧ Below w.heap.size w w' :=
  Any.utf8_DecodeRuneInString L.decL t w h
set_option maxHeartbeats 1000000 in
set_option maxRecDepth 100000 in
theorem peek_in {w : World} {b : Nat} {s : ByteArray} {at_ d sz : Nat} (h : Rd w b s at_ d sz) (he : ¬ s.size ≤ at_) : Calls Tryd.prog 36 #[.pointer (some ⟨b, 0, none⟩)] w fun x w' => Below w.heap.size w w' ∧ x = (if (Lib.decodeGo (subS s at_)).1 = 65533 ∧ (Lib.decodeGo (subS s at_)).2 < 2 then .panicked (flt at_ 8) else .returned (.int .i32 (Lib.decodeGo (subS s at_)).1)) := by
  obtain ⟨c0, c1, c2, c3⟩ := h.cell
  have he' : ¬ ((at_ : Int) ≥ (s.size : Int)) := by omega
  have HH := Aside0.mk h
  have hle : at_ ≤ s.size := h.le
  clear h
  obtain ⟨X, hX⟩ : ∃ X, X = (if (Lib.decodeGo (subS s at_)).1 = 65533 ∧ (Lib.decodeGo (subS s at_)).2 < 2 then Ending.panicked (flt at_ 8) else .returned (.int .i32 (Lib.decodeGo (subS s at_)).1)) := ⟨_, rfl⟩
  rw [← hX]
  have HX := Aside0.mk hX
  clear hX
  go_enter Tryd.func36, Tryd.ntmps36
  go_wp2_with (fail)
  go_quiet (fail)
  go_wp2_with (fail)
  have HW := Aside0.mk (HH.out.below (pw_below_drewN (Below.refl _ _) nq))
  have HB := Aside0.mk (pw_below_drewN (Below.refl w.heap.size w) nq)
  generalize w.drewN nq = W1 at *
  clear c0 c1 c2 c3
  refine start_ (n := 15) (S := fun w' => w'.cell? ⟨b, 0, none⟩ = some (.string s) ∧ w'.cell? ⟨b, 1, none⟩ = some (.int .i64 at_)) (ds := []) #[false, false, false, false, false, false, false, false, false, false, false, false, false, false, false] (by kernel_rfl) rfl rfl ⟨(HW.out.below (below_drew1 (Below.refl _ _))).cell.1, (HW.out.below (below_drew1 (Below.refl _ _))).cell.2.1⟩ (fun hHeld => ?_); refine with_tabW peek.tab3 peek.bits3 (fun HT_ HW_ => ?_)
  have HW0 := Aside0.mk (HW.out.below (below_drew1 (Below.refl _ _)))
  have HB0 := Aside0.mk (below_drew1 HB.out)
  generalize W1.drew = W0 at *
  refine pure_ (i := 0) (N := some 16) (v := ?_) (a' := ?_) #[true, false, false, false, false, false, false, false, false, false, false, false, false, false, false] rfl rfl (any_of HT_.out (by kernel_rfl)) (fun _ _ _ h => h) (Or.inl ⟨by rfl, ?_⟩) ?_ ?_
  rotate_left
  · intro w'
    go_simp
    with_reducible rfl
  rotate_left
  · simp only [Act.put, List.setIfInBounds_toArray, List.set_cons_zero, List.set_cons_succ, i64_w, i32_w, xu32_w, xu8_w]
    rfl
  refine pure_ (i := 1) (N := some 17) (v := ?_) (a' := ?_) #[true, true, false, false, false, false, false, false, false, false, false, false, false, false, false] rfl rfl (any_of HT_.out (by kernel_rfl)) (fun _ _ _ h => h) (Or.inl ⟨by rfl, ?_⟩) ?_ ?_
  rotate_left
  · intro w'
    go_simp
    with_reducible rfl
  rotate_left
  · simp only [Act.put, List.setIfInBounds_toArray, List.set_cons_zero, List.set_cons_succ, i64_w, i32_w, xu32_w, xu8_w]
    rfl
  refine pure_ (i := 2) (N := some 18) (v := ?_) (a' := ?_) #[true, true, true, false, false, false, false, false, false, false, false, false, false, false, false] rfl rfl (any_of HT_.out (by kernel_rfl)) (fun _ _ _ h => h) (Or.inl ⟨by rfl, ?_⟩) ?_ ?_
  rotate_left
  · intro w'
    go_simp
    with_reducible rfl
  rotate_left
  · simp only [Act.put, List.setIfInBounds_toArray, List.set_cons_zero, List.set_cons_succ, i64_w, i32_w, xu32_w, xu8_w]
    rfl
  refine pure_ (i := 4) (N := some 20) (v := ?_) (a' := ?_) #[true, true, true, false, true, false, false, false, false, false, false, false, false, false, false] rfl rfl (any_of HT_.out (by kernel_rfl)) (fun _ _ _ h => h) (Or.inl ⟨by rfl, ?_⟩) ?_ ?_
  rotate_left
  · intro w'
    go_simp
    with_reducible rfl
  rotate_left
  · simp only [Act.put, List.setIfInBounds_toArray, List.set_cons_zero, List.set_cons_succ, i64_w, i32_w, xu32_w, xu8_w]
    rfl
  refine pure_ (i := 5) (N := some 21) (v := ?_) (a' := ?_) #[true, true, true, false, true, true, false, false, false, false, false, false, false, false, false] rfl rfl (any_of HT_.out (by kernel_rfl)) (fun _ _ _ h => h) (Or.inl ⟨by rfl, ?_⟩) ?_ ?_
  rotate_left
  · intro w'
    go_simp
    with_reducible rfl
  rotate_left
  · simp only [Act.put, List.setIfInBounds_toArray, List.set_cons_zero, List.set_cons_succ, i64_w, i32_w, xu32_w, xu8_w]
    rfl
  refine pure_ (i := 6) (N := some 22) (v := ?_) (a' := ?_) #[true, true, true, false, true, true, true, false, false, false, false, false, false, false, false] rfl rfl (any_of HT_.out (by kernel_rfl)) (fun _ _ _ h => h) (Or.inl ⟨by rfl, ?_⟩) ?_ ?_
  rotate_left
  · intro w'
    go_simp
    with_reducible rfl
  rotate_left
  · simp only [Act.put, List.setIfInBounds_toArray, List.set_cons_zero, List.set_cons_succ, i64_w, i32_w, xu32_w, xu8_w]
    rfl
  refine take_ (i := 3) (N := some 19) (v := ?_) (a' := ?_) #[true, true, true, true, true, true, true, false, false, false, false, false, false, false, false] rfl rfl (take_ofW HT_.out HW_.out (by kernel_rfl)) (fun _ _ _ h => h) (Or.inl ⟨by rfl, ?_⟩) hHeld ?_ ?_
  rotate_left
  · rintro w' ⟨s0, s1⟩
    go_simp
    with_reducible rfl
  rotate_left
  · simp only [Act.put, List.setIfInBounds_toArray, List.set_cons_zero, List.set_cons_succ, i64_w, i32_w, xu32_w, xu8_w]
    rfl
  refine take_ (i := 7) (N := some 23) (v := ?_) (a' := ?_) #[true, true, true, true, true, true, true, true, false, false, false, false, false, false, false] rfl rfl (take_ofW HT_.out HW_.out (by kernel_rfl)) (fun _ _ _ h => h) (Or.inl ⟨by rfl, ?_⟩) hHeld ?_ ?_
  rotate_left
  · rintro w' ⟨s0, s1⟩
    go_simp
    with_reducible rfl
  rotate_left
  · simp only [Act.put, List.setIfInBounds_toArray, List.set_cons_zero, List.set_cons_succ, i64_w, i32_w, xu32_w, xu8_w]
    rfl
  refine pure_ (i := 8) (N := some 24) (v := ?_) (a' := ?_) #[true, true, true, true, true, true, true, true, true, false, false, false, false, false, false] rfl rfl (any_of HT_.out (by kernel_rfl)) (fun _ _ _ h => h) (Or.inl ⟨by rfl, ?_⟩) ?_ ?_
  rotate_left
  · intro w'
    go_simp
    with_reducible rfl
  rotate_left
  · simp only [Act.put, List.setIfInBounds_toArray, List.set_cons_zero, List.set_cons_succ, i64_w, i32_w, xu32_w, xu8_w]
    rfl
  refine one_ (i := 9) (N := some 25) #[true, true, true, true, true, true, true, true, true, true, false, false, false, false, false] rfl rfl (one_of HT_.out (by kernel_rfl)) (by decide) (fun K hK => ?_)
  refine goes_ Tryd.func47 (by kernel_rfl) rfl #[.string (subS s at_)] (by rfl) rfl rfl (by (try simp only [List.map_toArray, List.map_cons, List.map_nil]); first | done | rfl) ?_
  with_reducible refine (dec_calls HW0.out.tab (subS s at_)).mono ?_
  rintro e w2 ⟨rfl, hb⟩
  refine ⟨_, rfl, ?_⟩
  have HW2 := Aside0.mk (HW0.out.below hb)
  have HB2 := Aside0.mk (HB0.out.trans (hb.mono HB0.out.size))
  clear hb
  refine hK.out _ _ ⟨HW2.out.cell.1, HW2.out.cell.2.1⟩ (fun hHeld => ?_)
  clear hK K
  refine norm_ (a' := ?_) ?_ ?_
  rotate_left
  · show Act.put _ (some 25) _ = _
    simp only [Act.put, List.setIfInBounds_toArray, List.set_cons_zero, List.set_cons_succ, i64_w, i32_w, xu32_w, xu8_w]
    rfl
  refine pure_ (i := 10) (N := some 15) (v := ?_) (a' := ?_) #[true, true, true, true, true, true, true, true, true, true, true, false, false, false, false] rfl rfl (any_of HT_.out (by kernel_rfl)) (fun _ _ _ h => h) (Or.inl ⟨by rfl, ?_⟩) ?_ ?_
  rotate_left
  · intro w'
    go_simp
    with_reducible rfl
  rotate_left
  · simp only [Act.put, List.setIfInBounds_toArray, List.set_cons_zero, List.set_cons_succ, i64_w, i32_w, xu32_w, xu8_w]
    rfl
  refine pure_ (i := 11) (N := some 26) (v := ?_) (a' := ?_) #[true, true, true, true, true, true, true, true, true, true, true, true, false, false, false] rfl rfl (any_of HT_.out (by kernel_rfl)) (fun _ _ _ h => h) (Or.inl ⟨by rfl, ?_⟩) ?_ ?_
  rotate_left
  · intro w'
    go_simp
    with_reducible rfl
  rotate_left
  · simp only [Act.put, List.setIfInBounds_toArray, List.set_cons_zero, List.set_cons_succ, i64_w, i32_w, xu32_w, xu8_w]
    rfl
  refine pure_ (i := 12) (N := some 27) (v := ?_) (a' := ?_) #[true, true, true, true, true, true, true, true, true, true, true, true, true, false, false] rfl rfl (any_of HT_.out (by kernel_rfl)) (fun _ _ _ h => h) (Or.inl ⟨by rfl, ?_⟩) ?_ ?_
  rotate_left
  · intro w'
    go_simp
    with_reducible rfl
  rotate_left
  · simp only [Act.put, List.setIfInBounds_toArray, List.set_cons_zero, List.set_cons_succ, i64_w, i32_w, xu32_w, xu8_w]
    rfl
  refine pure_ (i := 13) (N := some 3) (v := ?_) (a' := ?_) #[true, true, true, true, true, true, true, true, true, true, true, true, true, true, false] rfl rfl (any_of HT_.out (by kernel_rfl)) (fun _ _ _ h => h) (Or.inl ⟨by rfl, ?_⟩) ?_ ?_
  rotate_left
  · intro w'
    go_simp
    with_reducible rfl
  rotate_left
  · simp only [Act.put, List.setIfInBounds_toArray, List.set_cons_zero, List.set_cons_succ, i64_w, i32_w, xu32_w, xu8_w]
    rfl
  refine pure_ (i := 14) (N := some 4) (v := ?_) (a' := ?_) #[true, true, true, true, true, true, true, true, true, true, true, true, true, true, true] rfl rfl (any_of HT_.out (by kernel_rfl)) (fun _ _ _ h => h) (Or.inl ⟨by rfl, ?_⟩) ?_ ?_
  rotate_left
  · intro w'
    go_simp
    with_reducible rfl
  rotate_left
  · simp only [Act.put, List.setIfInBounds_toArray, List.set_cons_zero, List.set_cons_succ, i64_w, i32_w, xu32_w, xu8_w]
    rfl
  refine done_ (done_of HT_.out (by kernel_rfl)) ?_
  clear hle
  generalize (Lib.decodeGo (subS s at_)).1 = R at *
  generalize (Lib.decodeGo (subS s at_)).2 = K at *
  by_cases c1 : R = 65533
  · subst c1
    by_cases c2 : K < 2
    · have c3 : (K : Int) < 2 := by omega
      have hX := HX.out
      rw [if_pos ⟨rfl, c2⟩] at hX
      subst hX
      go_wp2_with (go_at_call 23; (with_reducible refine (bad_calls HW2.out 8).mono ?_); rintro e w' ⟨rfl, rfl⟩)
      exact ⟨rfl, HB2.out, rfl⟩
    · have c3 : ¬ (K : Int) < 2 := by omega
      have hX := HX.out
      rw [if_neg (fun h => c2 h.2)] at hX
      subst hX
      go_wp2_with (fail)
      go_ret
      exact ⟨HB2.out, rfl⟩
  · have c3 : ((R : Int) == 65533) = false := by rw [beq_eq_false_iff_ne]; omega
    have hX := HX.out
    rw [if_neg (fun h => c1 h.1)] at hX
    subst hX
    clear c1
    go_wp2_with (fail)
    go_ret
    exact ⟨HB2.out, rfl⟩
theorem peek_ok {w : World} {b : Nat} {s : ByteArray} {at_ d sz : Nat} (h : Rd w b s at_ d sz) {c : Int} (hc : peekF s at_ = some c) : Calls Tryd.prog 36 #[.pointer (some ⟨b, 0, none⟩)] w fun x w' => x = .returned (.int .i32 c) ∧ Below w.heap.size w w' := by
  unfold peekF at hc
  by_cases he : s.size ≤ at_
  · rw [if_pos he] at hc
    obtain rfl := Option.some.inj hc
    exact peek_end h he
  · rw [if_neg he] at hc
    refine (peek_in h he).mono fun x w' ⟨hb, hx⟩ => ⟨?_, hb⟩
    rw [hx]
    split at hc
    · cases hc
    · rename_i hn
      obtain rfl := Option.some.inj hc
      rw [if_neg hn]
theorem peek_no {w : World} {b : Nat} {s : ByteArray} {at_ d sz : Nat} (h : Rd w b s at_ d sz) (hc : peekF s at_ = none) : Calls Tryd.prog 36 #[.pointer (some ⟨b, 0, none⟩)] w fun x w' => x = .panicked (flt at_ 8) ∧ Below w.heap.size w w' := by
  unfold peekF at hc
  by_cases he : s.size ≤ at_
  · rw [if_pos he] at hc; cases hc
  · rw [if_neg he] at hc
    refine (peek_in h he).mono fun x w' ⟨hb, hx⟩ => ⟨?_, hb⟩
    rw [hx]
    split at hc
    · rename_i hn
      rw [if_pos hn]
    · cases hc
/-- How many bytes a rune has. -/
def rl (c : Int) : Nat := if c ≤ 127 then 1 else if c ≤ 2047 then 2 else if c ≤ 65535 then 3 else 4
/-- A rune that a text may have. -/
def Rune (c : Int) : Prop := 0 ≤ c ∧ c ≤ 1114111 ∧ ¬ (55296 ≤ c ∧ c ≤ 57343)
theorem rl_f {c : Int} (h : Rune c) : utf8_RuneLen.f 2 c = some ((rl c : Nat) : Int) := by
  obtain ⟨h0, h1, h2⟩ := h
  unfold utf8_RuneLen.f rl
  rw [if_neg (by omega)]
  by_cases a : c ≤ 127
  · rw [if_pos a, if_pos a]; rfl
  rw [if_neg a, if_neg a]
  by_cases a : c ≤ 2047
  · rw [if_pos a, if_pos a]; rfl
  rw [if_neg a, if_neg a]
  have hj : ∀ x, x = false → utf8_RuneLen.j0 2 c x = some (((if c ≤ 65535 then 3 else 4 : Nat)) : Int) := by
    rintro x rfl
    show (if (false : Bool) = true then some (-1) else if c ≤ 65535 then some 3 else if c ≤ 1114111 then some 4 else some (-1)) = _
    rw [if_neg Bool.false_ne_true]
    by_cases a : c ≤ 65535
    · rw [if_pos a, if_pos a]; rfl
    · rw [if_neg a, if_neg a, if_pos h1]; rfl
  by_cases a : 55296 ≤ c
  · rw [if_pos a]; exact hj _ (decide_eq_false (by omega))
  · rw [if_neg a]; exact hj _ rfl
/-- What a reader's step turns: its own block. -/
structure Stp (b : Nat) (w w' : World) : Prop where
  os : w'.os = w.os
  tape : w'.tape = w.tape
  output : w'.output = w.output
  size : w.heap.size ≤ w'.heap.size
  block : ∀ k, k < w.heap.size → k ≠ b → w'.heap[k]? = w.heap[k]?
theorem Stp.refl (b : Nat) (w : World) : Stp b w w := ⟨rfl, rfl, rfl, Nat.le_refl _, fun _ _ _ => rfl⟩
theorem Stp.trans {b : Nat} {w w1 w2 : World} (h : Stp b w w1) (k : Stp b w1 w2) : Stp b w w2 :=
  ⟨k.os.trans h.os, k.tape.trans h.tape, k.output.trans h.output, Nat.le_trans h.size k.size, fun i hi hn => (k.block i (Nat.lt_of_lt_of_le hi h.size) hn).trans (h.block i hi hn)⟩
theorem Stp.of {b : Nat} {w w' : World} (h : Below w.heap.size w w') : Stp b w w' := ⟨h.os, h.tape, h.output, h.size, fun k hk _ => h.block k hk⟩
theorem Stp.set {b : Nat} {w : World} (o : Nat) (v : Value) : Stp b w (w.setCell ⟨b, o, none⟩ v) :=
  ⟨rfl, rfl, rfl, by simp, fun k _ hn => Below.heap_setCell _ _ _ k hn⟩
/-- A reader whose place, depth or size has been turned. -/
theorem Rd.set1 {w : World} {b : Nat} {s : ByteArray} {at_ d sz a2 : Nat} (h : Rd w b s at_ d sz) (hl : a2 ≤ s.size) : Rd (w.setCell ⟨b, 1, none⟩ (.int .i64 a2)) b s a2 d sz :=
  ⟨blk_put h.blk 1 _ rfl, h.tab.move (fun k hk _ => Below.heap_setCell _ _ _ k (fun e => by have e' : k = b := e; have := h.two; omega)), h.two, h.short, hl⟩
theorem Rd.set2 {w : World} {b : Nat} {s : ByteArray} {at_ d sz d2 : Nat} (h : Rd w b s at_ d sz) : Rd (w.setCell ⟨b, 2, none⟩ (.int .i64 d2)) b s at_ d2 sz :=
  ⟨blk_put h.blk 2 _ rfl, h.tab.move (fun k hk _ => Below.heap_setCell _ _ _ k (fun e => by have e' : k = b := e; have := h.two; omega)), h.two, h.short, h.le⟩
theorem Rd.set3 {w : World} {b : Nat} {s : ByteArray} {at_ d sz z2 : Nat} (h : Rd w b s at_ d sz) : Rd (w.setCell ⟨b, 3, none⟩ (.int .i64 z2)) b s at_ d z2 :=
  ⟨blk_put h.blk 3 _ rfl, h.tab.move (fun k hk _ => Below.heap_setCell _ _ _ k (fun e => by have e' : k = b := e; have := h.two; omega)), h.two, h.short, h.le⟩
def skip.T0 : Bool × List (List Nat × List Nat) := (true, [([], []), ([0], [0]), ([1], [1]), ([2], [2]), ([], []), ([4], [4]), ([3, 5], [3, 5]), ([0, 0, 1, 2, 3, 4, 5, 6], [0]), ([7, 0, 1, 2, 3, 4, 5, 6], [7]), ([8, 6, 5, 0, 1, 2, 3, 4, 5, 6], [6, 8])])
def skip.B0 : List Nat := [0, 1, 3, 7, 0, 16, 63, 127, 255, 511]
theorem skip.tab0 : rtab .any (opsOf Tryd.f37 0) = skip.T0 := by kernel_rfl
theorem skip.bits0 : waitsOk skip.T0.2 skip.B0 = true := by kernel_rfl
set_option maxHeartbeats 1000000 in
set_option maxRecDepth 100000 in
theorem skip_calls {w : World} {b : Nat} {s : ByteArray} {at_ d sz : Nat} (h : Rd w b s at_ d sz) {c : Int} (hc : Rune c) (hl : at_ + rl c ≤ s.size) : Calls Tryd.prog 37 #[.pointer (some ⟨b, 0, none⟩), .int .i32 c] w fun x w' => x = .returned (.tuple #[]) ∧ Rd w' b s (at_ + rl c) d sz ∧ Stp b w w' := by
  have hf := rl_f hc
  obtain ⟨n, hn⟩ : ∃ n, rl c = n := ⟨_, rfl⟩
  rw [hn] at hf hl
  rw [hn]
  have HF := Aside0.mk hf
  have HL := Aside0.mk hl
  have HS := Aside0.mk h.short
  have HH := Aside0.mk h
  clear hf hn hc hl h
  go_enter Tryd.func37, Tryd.ntmps37
  go_wp2_with (fail)
  refine start_ (n := 10) (S := fun w' => w'.cell? ⟨b, 1, none⟩ = some (.int .i64 at_)) (ds := [9]) #[false, false, false, false, false, false, false, false, false, false] (by kernel_rfl) rfl rfl (HH.out.below (below_drew1 (Below.refl _ _))).cell.2.1 (fun hHeld => ?_); refine with_tabW skip.tab0 skip.bits0 (fun HT_ HW_ => ?_)
  have HW0 := Aside0.mk (HH.out.below (below_drew1 (Below.refl _ _)))
  have HB0 := Aside0.mk (below_drew1 (Below.refl w.heap.size w))
  generalize w.drew = W0 at *
  refine pure_ (i := 0) (N := some 4) (v := ?_) (a' := ?_) #[true, false, false, false, false, false, false, false, false, false] rfl rfl (any_of HT_.out (by kernel_rfl)) (fun _ _ _ h => h) (Or.inl ⟨by rfl, ?_⟩) ?_ ?_
  rotate_left
  · intro w'
    go_simp
    with_reducible rfl
  rotate_left
  · simp only [Act.put, List.setIfInBounds_toArray, List.set_cons_zero, List.set_cons_succ, i64_w, i32_w, xu32_w, xu8_w]
    rfl
  refine pure_ (i := 1) (N := some 5) (v := ?_) (a' := ?_) #[true, true, false, false, false, false, false, false, false, false] rfl rfl (any_of HT_.out (by kernel_rfl)) (fun _ _ _ h => h) (Or.inl ⟨by rfl, ?_⟩) ?_ ?_
  rotate_left
  · intro w'
    go_simp
    with_reducible rfl
  rotate_left
  · simp only [Act.put, List.setIfInBounds_toArray, List.set_cons_zero, List.set_cons_succ, i64_w, i32_w, xu32_w, xu8_w]
    rfl
  refine pure_ (i := 2) (N := some 6) (v := ?_) (a' := ?_) #[true, true, true, false, false, false, false, false, false, false] rfl rfl (any_of HT_.out (by kernel_rfl)) (fun _ _ _ h => h) (Or.inl ⟨by rfl, ?_⟩) ?_ ?_
  rotate_left
  · intro w'
    go_simp
    with_reducible rfl
  rotate_left
  · simp only [Act.put, List.setIfInBounds_toArray, List.set_cons_zero, List.set_cons_succ, i64_w, i32_w, xu32_w, xu8_w]
    rfl
  refine pure_ (i := 4) (N := some 8) (v := ?_) (a' := ?_) #[true, true, true, false, true, false, false, false, false, false] rfl rfl (any_of HT_.out (by kernel_rfl)) (fun _ _ _ h => h) (Or.inl ⟨by rfl, ?_⟩) ?_ ?_
  rotate_left
  · intro w'
    go_simp
    with_reducible rfl
  rotate_left
  · simp only [Act.put, List.setIfInBounds_toArray, List.set_cons_zero, List.set_cons_succ, i64_w, i32_w, xu32_w, xu8_w]
    rfl
  refine take_ (i := 3) (N := some 7) (v := ?_) (a' := ?_) #[true, true, true, true, true, false, false, false, false, false] rfl rfl (take_ofW HT_.out HW_.out (by kernel_rfl)) (fun _ _ _ h => h) (Or.inl ⟨by rfl, ?_⟩) hHeld ?_ ?_
  rotate_left
  · rintro w' s0
    go_simp
    with_reducible rfl
  rotate_left
  · simp only [Act.put, List.setIfInBounds_toArray, List.set_cons_zero, List.set_cons_succ, i64_w, i32_w, xu32_w, xu8_w]
    rfl
  refine one_ (i := 5) (N := some 9) #[true, true, true, true, true, true, false, false, false, false] rfl rfl (one_of HT_.out (by kernel_rfl)) (by decide) (fun K hK => ?_)
  refine goes_ Tryd.func48 (by kernel_rfl) rfl #[.int .i32 c] (by rfl) rfl rfl (by (try simp only [List.map_toArray, List.map_cons, List.map_nil]); first | done | rfl) ?_
  with_reducible refine (utf8_RuneLen.calls 2 c _ _ HF.out).mono ?_
  rintro e w2 ⟨rfl, ⟨nd, rfl⟩⟩
  refine ⟨_, rfl, ?_⟩
  have HW2 := Aside0.mk (HW0.out.below (pw_below_drewN (Below.refl _ _) nd))
  have HB2 := Aside0.mk (pw_below_drewN HB0.out nd)
  generalize W0.drewN nd = w2 at *
  refine hK.out _ _ HW2.out.cell.2.1 (fun hHeld => ?_)
  clear hK K
  refine norm_ (a' := ?_) ?_ ?_
  rotate_left
  · show Act.put _ (some 9) _ = _
    simp only [Act.put, List.setIfInBounds_toArray, List.set_cons_zero, List.set_cons_succ, i64_w, i32_w, xu32_w, xu8_w]
    rfl
  refine pure_ (i := 6) (N := some 10) (v := ?_) (a' := ?_) #[true, true, true, true, true, true, true, false, false, false] rfl rfl (any_of HT_.out (by kernel_rfl)) (fun _ _ _ h => h) (Or.inl ⟨by rfl, ?_⟩) ?_ ?_
  rotate_left
  · intro w'
    go_simp
    with_reducible rfl
  rotate_left
  · simp only [Act.put, List.setIfInBounds_toArray, List.set_cons_zero, List.set_cons_succ, i64_w, i32_w, xu32_w, xu8_w]
    rfl
  refine pure_ (i := 7) (N := some 11) (v := ?_) (a' := ?_) #[true, true, true, true, true, true, true, true, false, false] rfl rfl (any_of HT_.out (by kernel_rfl)) (fun _ _ _ h => h) (Or.inl ⟨by rfl, ?_⟩) ?_ ?_
  rotate_left
  · intro w'
    go_simp
    with_reducible rfl
  rotate_left
  · simp only [Act.put, List.setIfInBounds_toArray, List.set_cons_zero, List.set_cons_succ, i64_w, i32_w, xu32_w, xu8_w]
    rfl
  refine pure_ (i := 8) (N := some 12) (v := ?_) (a' := ?_) #[true, true, true, true, true, true, true, true, true, false] rfl rfl (any_of HT_.out (by kernel_rfl)) (fun _ _ _ h => h) (Or.inl ⟨by rfl, ?_⟩) ?_ ?_
  rotate_left
  · intro w'
    go_simp
    with_reducible rfl
  rotate_left
  · simp only [Act.put, List.setIfInBounds_toArray, List.set_cons_zero, List.set_cons_succ, i64_w, i32_w, xu32_w, xu8_w]
    rfl
  refine last_ (i := 9) (N := none) #[true, true, true, true, true, true, true, true, true, true] rfl rfl (one_of HT_.out (by kernel_rfl)) (by decide) (fun K hK => ?_)
  have c1 := HW2.out.cell.2.1
  have f1 := HW2.out.frozen 1
  refine skip_ (w1 := w2.setCell ⟨b, 1, none⟩ (.int .i64 (wrap64 (at_ + n)))) (by rfl) rfl (by first | (go_simp; done) | (go_simp; rfl)) ?_
  refine hK.out _ _ ?_
  clear hK K
  refine done_ (done_of HT_.out (by kernel_rfl)) ?_
  have hw : wrap64 ((at_ : Int) + n) = ((at_ + n : Nat) : Int) := by
    have h1 := HL.out
    have h2 := HS.out
    unfold wrap64
    omega
  rw [hw]
  go_end0
  refine ⟨rfl, HW2.out.set1 HL.out, ?_⟩
  exact (Stp.of HB2.out).trans (Stp.set 1 _)
end Go.Proofs.YtmfpikhmeacnbaaDoor.X

/- Patterns by hand: escape, member, upper (mkX2.py). -/
namespace Go.Proofs.YtmfpikhmeacnbaaDoor.X
open Go.RowKit Go.Proofs.YtmfpikhmeacnbaaDoor.Q Go.Proofs.YtmfpikhmeacnbaaDoorW.PrintWords Go.Proofs.YtmfpikhmeacnbaaDoorW.PrintLast Go.Proofs.YtmfpikhmeacnbaaDoorW.PrintMore
set_option linter.unusedVariables false
set_option linter.unusedSimpArgs false
/-- What a reader reads: something, and the place behind it; or where there is a fault, and which. -/
inductive Res (α : Type) where
  | ok (a : α) (at_ : Nat)
  | bad (at_ : Nat) (e : Int)
def shortsL (c : Int) : List S86 := if c = 100 then [⟨48, 57⟩] else if c = 119 then [⟨48, 57⟩, ⟨65, 90⟩, ⟨97, 122⟩, ⟨95, 95⟩] else if c = 115 then [⟨32, 32⟩, ⟨9, 9⟩, ⟨10, 10⟩] else []
theorem shorts_f (c : Int) : rex_shorts.f c = some (shortsL c) := by
  unfold rex_shorts.f shortsL
  repeat' split
  all_goals rfl
theorem shorts_eq {c : Int} (h : shortsL c ≠ []) : c = 100 ∨ c = 119 ∨ c = 115 := by
  unfold shortsL at h
  by_cases a : c = 100
  · exact .inl a
  by_cases b : c = 119
  · exact .inr (.inl b)
  by_cases d : c = 115
  · exact .inr (.inr d)
  · rw [if_neg a, if_neg b, if_neg d] at h; exact absurd rfl h
/-- The spans that have been read, in memory of their own. -/
def Spn (w w' : World) (v : Value) (l : List S86) : Prop := ∃ g c2, v = .slice (some ⟨g, 0, none⟩) l.length c2 ∧ k86.R 86 w' w.heap.size (fun k => w.heap.size ≤ k) v l
theorem Spn.stp {w w1 w2 : World} {b : Nat} {v : Value} {l : List S86} (h : Spn w w1 v l) (hs : Stp b w1 w2) (hb : b < w.heap.size) : Spn w w2 v l := by
  obtain ⟨g, c2, hv, hR⟩ := h
  exact ⟨g, c2, hv, Kd.R_step hR (fun k hk hlt => hs.block k hlt (by omega))⟩
theorem Spn.lower {w w1 w2 : World} {v : Value} {l : List S86} (h : Spn w1 w2 v l) (hs : w.heap.size ≤ w1.heap.size) : Spn w w2 v l := by
  obtain ⟨g, c2, hv, hR⟩ := h
  exact ⟨g, c2, hv, Kd.R_lower (Kd.R_mono hR (fun k hk => Nat.le_trans hs hk)) hs⟩
theorem shorts_some {c : Int} (h : shortsL c ≠ []) (w : World) : Calls Tryd.prog 60 #[.int .i32 c] w fun x w' => ∃ g c2, x = .returned (.slice (some ⟨g, 0, none⟩) (shortsL c).length c2) ∧ Spn w w' (.slice (some ⟨g, 0, none⟩) (shortsL c).length c2) (shortsL c) ∧ Below w.heap.size w w' := by
  refine (rex_shorts.calls c _ w (shorts_f c)).mono fun x w' ⟨v, hx, hR, hb⟩ => ?_
  obtain ⟨g, c2, hv, _⟩ := Kd.R_form hR (List.length_pos_iff.2 h)
  subst hv
  exact ⟨g, c2, hx, ⟨g, c2, rfl, Kd.R_mono (Kd.R_bound hR) (fun k hk => hk.2.1)⟩, hb⟩
set_option maxHeartbeats 1000000 in
set_option maxRecDepth 100000 in
theorem shorts_none {c : Int} (h : shortsL c = []) (w : World) : Calls Tryd.prog 60 #[.int .i32 c] w fun x w' => x = .returned (.slice none 0 0) ∧ w' = w := by
  unfold shortsL at h
  by_cases a : c = 100
  · rw [if_pos a] at h; cases h
  rw [if_neg a] at h
  by_cases b : c = 119
  · rw [if_pos b] at h; cases h
  rw [if_neg b] at h
  by_cases d : c = 115
  · rw [if_pos d] at h; cases h
  have a' : (c == 100) = false := beq_eq_false_iff_ne.2 a
  have b' : (c == 119) = false := beq_eq_false_iff_ne.2 b
  have d' : (c == 115) = false := beq_eq_false_iff_ne.2 d
  clear a b d h
  go_enter Tryd.func60, Tryd.ntmps60
  go_wp2
  go_ret
  exact ⟨rfl, rfl⟩
/-- A rune that stands in a text has as many bytes as it must. -/
theorem decode_rune (t : ByteArray) (h : ¬ t.size = 0) : ((Utf8.decode t 0).1 = 65533 ∧ (Utf8.decode t 0).2 < 2) ∨ (Rune ((Utf8.decode t 0).1 : Nat) ∧ rl ((Utf8.decode t 0).1 : Nat) = (Utf8.decode t 0).2 ∧ (Utf8.decode t 0).2 ≤ t.size) := by
  have hs : 0 < t.size := by omega
  have h255 : ∀ k : Nat, (t.get! k).toNat < 256 := fun k => (t.get! k).toNat_lt
  have a0 := h255 (0 + 0)
  have a1 := h255 (0 + 1)
  have a2 := h255 (0 + 2)
  have a3 := h255 (0 + 3)
  obtain ⟨p, hp⟩ : ∃ p, Utf8.decode t 0 = p := ⟨_, rfl⟩
  rw [hp]
  unfold Utf8.decode at hp
  dsimp only at hp
  have hv : ∀ c : Nat, Utf8.valid (c : Int) = true → (c < 55296 ∨ (57344 ≤ c ∧ c ≤ 1114111)) := fun c h => by
    unfold Utf8.valid at h
    simp only [Bool.or_eq_true, Bool.and_eq_true, decide_eq_true_eq] at h
    omega
  have e2 : ∀ a b c d : Prop, True := fun _ _ _ _ => trivial
  split at hp
  · subst hp
    refine .inr ⟨⟨?_, ?_, ?_⟩, ?_, ?_⟩
    · dsimp only; omega
    · dsimp only; omega
    · dsimp only; omega
    · unfold rl; dsimp only; rw [if_pos (by omega)]
    · dsimp only; omega
  split at hp
  · rename_i hc
    simp only [Bool.and_eq_true, decide_eq_true_eq, beq_iff_eq] at hc
    split at hp
    · subst hp
      refine .inr ⟨⟨?_, ?_, ?_⟩, ?_, ?_⟩
      · dsimp only; omega
      · dsimp only; omega
      · dsimp only; omega
      · unfold rl; dsimp only; rw [if_neg (by omega), if_pos (by omega)]
      · dsimp only; omega
    · subst hp; exact .inl ⟨rfl, by decide⟩
  split at hp
  · rename_i hc
    simp only [Bool.and_eq_true, decide_eq_true_eq, beq_iff_eq] at hc
    split at hp
    · rename_i hg
      simp only [Bool.and_eq_true, decide_eq_true_eq] at hg
      have hvv := hv _ hg.2
      subst hp
      refine .inr ⟨⟨?_, ?_, ?_⟩, ?_, ?_⟩
      · dsimp only; omega
      · dsimp only; omega
      · dsimp only; omega
      · unfold rl; dsimp only; rw [if_neg (by omega), if_neg (by omega), if_pos (by omega)]
      · dsimp only; omega
    · subst hp; exact .inl ⟨rfl, by decide⟩
  split at hp
  · rename_i hc
    simp only [Bool.and_eq_true, decide_eq_true_eq, beq_iff_eq] at hc
    split at hp
    · rename_i hg
      simp only [Bool.and_eq_true, decide_eq_true_eq] at hg
      have hvv := hv _ hg.2
      subst hp
      refine .inr ⟨⟨?_, ?_, ?_⟩, ?_, ?_⟩
      · dsimp only; omega
      · dsimp only; omega
      · dsimp only; omega
      · unfold rl; dsimp only; rw [if_neg (by omega), if_neg (by omega), if_neg (by omega)]
      · dsimp only; omega
    · subst hp; exact .inl ⟨rfl, by decide⟩
  · subst hp; exact .inl ⟨rfl, by decide⟩
theorem peek_rune {s : ByteArray} {i : Nat} {c : Int} (hi : i ≤ s.size) (h : peekF s i = some c) : c = -1 ∨ (Rune c ∧ i + rl c ≤ s.size) := by
  unfold peekF at h
  by_cases he : s.size ≤ i
  · rw [if_pos he] at h
    exact .inl (Option.some.inj h).symm
  · rw [if_neg he] at h
    have hz : (subS s i).size = s.size - i := by unfold subS; rw [ByteArray.size_extract]; omega
    have hd : Lib.decodeGo (subS s i) = Utf8.decode (subS s i) 0 := by unfold Lib.decodeGo; rw [if_neg (by omega)]
    rw [hd] at h
    split at h
    · cases h
    · rename_i hn
      have e := Option.some.inj h
      rcases decode_rune (subS s i) (by omega) with hb | ⟨h1, h2, h3⟩
      · exact absurd hb hn
      · rw [e] at h1 h2
        exact .inr ⟨h1, by omega⟩
/-- What stands behind a backslash. -/
def escF (s : ByteArray) (i : Nat) : Res (List S86 × Bool) := match peekF s i with
  | none => .bad i 8
  | some c => if shortsL c ≠ [] then .ok (shortsL c, false) (i + rl c) else if c < 0 ∨ (special c = false ∧ c ≠ 45 ∧ c ≠ 47) then .bad i 8 else .ok ([⟨c, c⟩], true) (i + rl c)
theorem Spn.mk1 {w w1 : World} {c : Int} {b : Nat} (hb : w.heap.size ≤ b) (h : w1.heap[b]? = some (.cells #[.int .i32 c, .int .i32 c] 86 (0, 0))) : Spn w w1 (.slice (some ⟨b, 0, none⟩) 1 1) [⟨c, c⟩] := by
  refine ⟨b, 1, rfl, fun k hk => by have e : b = k := by simpa [Value.ownBlock] using hk
                                    omega, [.int .i32 c, .int .i32 c], ?_, ?_⟩
  · exact ⟨rfl, .inr ⟨b, 1, _, rfl, hb, h, Nat.le_refl _, by unfold maxLen; omega, rfl, rfl⟩⟩
  · exact ⟨rfl, fun j p hj => by
      match j, hj with
      | 0, hj => cases hj; exact k86_mkM _ _ _ _⟩
set_option maxHeartbeats 1000000 in
set_option maxRecDepth 100000 in
theorem esc_ok {w : World} {b : Nat} {s : ByteArray} {at_ d sz : Nat} (h : Rd w b s at_ d sz) {l : List S86} {sg : Bool} {a2 : Nat} (hf : escF s at_ = .ok (l, sg) a2) : Calls Tryd.prog 53 #[.pointer (some ⟨b, 0, none⟩)] w fun x w' => ∃ v, x = .returned (.tuple #[v, .bool sg]) ∧ Rd w' b s a2 d sz ∧ Stp b w w' ∧ Spn w w' v l := by
  unfold escF at hf
  cases hp : peekF s at_ with
  | none => rw [hp] at hf; cases hf
  | some c =>
    rw [hp] at hf
    dsimp only at hf
    have HP := Aside0.mk hp
    have HH := Aside0.mk h
    by_cases hs : shortsL c ≠ []
    · rw [if_pos hs] at hf
      injection hf with e1 e2
      injection e1 with e1 e3
      subst e1 e2 e3
      have hc : Rune c ∧ at_ + rl c ≤ s.size := (peek_rune h.le hp).resolve_left (fun e => by rcases shorts_eq hs with h | h | h <;> omega)
      have HC := Aside0.mk hc
      have HS := Aside0.mk hs
      clear hs hc hp h
      go_enter Tryd.func53, Tryd.ntmps53
      go_wp2_with (first
        | (go_at_call 36; (with_reducible refine (peek_ok HH.out HP.out).mono ?_); rintro e w1 ⟨rfl, hb⟩; have HB1 := Aside0.mk hb; have H1 := Aside0.mk (HH.out.below hb); clear hb)
        | (go_at_call 60; (with_reducible refine (shorts_some HS.out _).mono ?_); rintro e w2 ⟨g, c2, rfl, hR, hb⟩; have HB2 := Aside0.mk hb; have HR := Aside0.mk hR; have H2 := Aside0.mk (H1.out.below hb); clear hb hR)
        | (go_at_call 37; (with_reducible refine (skip_calls H2.out HC.out.1 HC.out.2).mono ?_); rintro e w3 ⟨rfl, h3, hs3⟩; have H3 := Aside0.mk h3; have HS3 := Aside0.mk hs3; clear h3 hs3))
      go_ret2
      exact ⟨_, rfl, H3.out, (Stp.of HB1.out).trans ((Stp.of HB2.out).trans HS3.out), (HR.out.stp HS3.out (Nat.lt_of_lt_of_le HH.out.lt HB1.out.size)).lower HB1.out.size⟩
    · rw [if_neg hs] at hf
      by_cases hb : c < 0 ∨ (special c = false ∧ c ≠ 45 ∧ c ≠ 47)
      · rw [if_pos hb] at hf; cases hf
      · rw [if_neg hb] at hf
        injection hf with e1 e2
        injection e1 with e1 e3
        subst e1 e2 e3
        have h0 : ¬ c < 0 := fun e => hb (.inl e)
        have hc : Rune c ∧ at_ + rl c ≤ s.size := (peek_rune h.le hp).resolve_left (fun e => by omega)
        have HC := Aside0.mk hc
        have HS := Aside0.mk (show shortsL c = [] from Classical.byContradiction hs)
        have hcc : special c = true ∨ (special c = false ∧ ((c != 45) = false ∨ ((c != 45) = true ∧ (c != 47) = false))) := by
          cases hsp : special c with
          | true => exact .inl rfl
          | false =>
            refine .inr ⟨rfl, ?_⟩
            by_cases e : c = 45
            · exact .inl (by simp [e])
            · by_cases e' : c = 47
              · exact .inr (by simp [e'])
              · exact absurd (.inr ⟨hsp, e, e'⟩) hb
        clear hs hc hp h hb
        rcases hcc with hsp | ⟨hsp, h45 | ⟨h45, h47⟩⟩
        all_goals
          have HSP := Aside0.mk hsp
          clear hsp
          go_enter Tryd.func53, Tryd.ntmps53
          go_wp2_with (first
            | (go_at_call 36; (with_reducible refine (peek_ok HH.out HP.out).mono ?_); rintro e w1 ⟨rfl, hb⟩; have HB1 := Aside0.mk hb; have H1 := Aside0.mk (HH.out.below hb); clear hb)
            | (go_at_call 60; (with_reducible refine (shorts_none HS.out _).mono ?_); rintro e w' ⟨rfl, rfl⟩)
            | (go_at_call 31; (with_reducible refine (special_calls c _).mono ?_); rw [HSP.out]; rintro e w2 ⟨rfl, hb⟩; have HB2 := Aside0.mk hb; have H2 := Aside0.mk (H1.out.below hb); clear hb)
            | (go_at_call 37; (with_reducible refine (skip_calls H2.out HC.out.1 HC.out.2).mono ?_); rintro e w3 ⟨rfl, h3, hs3⟩; have H3 := Aside0.mk h3; have HS3 := Aside0.mk hs3; clear h3 hs3))
          go_ret2
          refine ⟨_, rfl, H3.out.below (below_alloc (Below.refl _ _) _), (Stp.of HB1.out).trans ((Stp.of HB2.out).trans (HS3.out.trans (Stp.of (below_alloc (Below.refl _ _) _)))), Spn.mk1 (Nat.le_trans HB1.out.size (Nat.le_trans HB2.out.size HS3.out.size)) (blk_new _ _)⟩
set_option maxHeartbeats 1000000 in
set_option maxRecDepth 100000 in
theorem esc_bad {w : World} {b : Nat} {s : ByteArray} {at_ d sz : Nat} (h : Rd w b s at_ d sz) {a2 : Nat} {E : Int} (hf : escF s at_ = .bad a2 E) : Calls Tryd.prog 53 #[.pointer (some ⟨b, 0, none⟩)] w fun x w' => x = .panicked (flt a2 E) ∧ Stp b w w' := by
  unfold escF at hf
  cases hp : peekF s at_ with
  | none =>
    rw [hp] at hf
    injection hf with e1 e2
    subst e1 e2
    have HP := Aside0.mk hp
    have HH := Aside0.mk h
    clear hp h
    go_enter Tryd.func53, Tryd.ntmps53
    go_wp2_with (go_at_call 36; (with_reducible refine (peek_no HH.out HP.out).mono ?_); rintro e w1 ⟨rfl, hb⟩; have HB1 := Aside0.mk hb; clear hb)
    exact ⟨rfl, rfl, Stp.of HB1.out⟩
  | some c =>
    rw [hp] at hf
    dsimp only at hf
    have HP := Aside0.mk hp
    have HH := Aside0.mk h
    by_cases hs : shortsL c ≠ []
    · rw [if_pos hs] at hf; cases hf
    rw [if_neg hs] at hf
    by_cases hb : c < 0 ∨ (special c = false ∧ c ≠ 45 ∧ c ≠ 47)
    · rw [if_pos hb] at hf
      injection hf with e1 e2
      subst e1 e2
      have HS := Aside0.mk (show shortsL c = [] from Classical.byContradiction hs)
      clear hs hp h
      by_cases h0 : c < 0
      · clear hb
        go_enter Tryd.func53, Tryd.ntmps53
        go_wp2_with (first
          | (go_at_call 36; (with_reducible refine (peek_ok HH.out HP.out).mono ?_); rintro e w1 ⟨rfl, hb⟩; have HB1 := Aside0.mk hb; have H1 := Aside0.mk (HH.out.below hb); clear hb)
          | (go_at_call 60; (with_reducible refine (shorts_none HS.out _).mono ?_); rintro e w' ⟨rfl, rfl⟩)
          | (go_at_call 23; (with_reducible refine (bad_calls H1.out 8).mono ?_); rintro e w' ⟨rfl, rfl⟩))
        exact ⟨rfl, rfl, Stp.of HB1.out⟩
      · obtain ⟨hsp, n45, n47⟩ := hb.resolve_left h0
        have h45 : (c != 45) = true := bne_iff_ne.2 n45
        have h47 : (c != 47) = true := bne_iff_ne.2 n47
        have HSP := Aside0.mk hsp
        clear hb hsp n45 n47
        go_enter Tryd.func53, Tryd.ntmps53
        go_wp2_with (first
          | (go_at_call 36; (with_reducible refine (peek_ok HH.out HP.out).mono ?_); rintro e w1 ⟨rfl, hb⟩; have HB1 := Aside0.mk hb; have H1 := Aside0.mk (HH.out.below hb); clear hb)
          | (go_at_call 60; (with_reducible refine (shorts_none HS.out _).mono ?_); rintro e w' ⟨rfl, rfl⟩)
          | (go_at_call 31; (with_reducible refine (special_calls c _).mono ?_); rw [HSP.out]; rintro e w2 ⟨rfl, hb⟩; have HB2 := Aside0.mk hb; have H2 := Aside0.mk (H1.out.below hb); clear hb)
          | (go_at_call 23; (with_reducible refine (bad_calls H2.out 8).mono ?_); rintro e w' ⟨rfl, rfl⟩))
        exact ⟨rfl, rfl, (Stp.of HB1.out).trans (Stp.of HB2.out)⟩
    · rw [if_neg hb] at hf; cases hf
end Go.Proofs.YtmfpikhmeacnbaaDoor.X

/- Patterns by hand: member, upper (mkX3.py). -/
namespace Go.Proofs.YtmfpikhmeacnbaaDoor.X
open Go.RowKit Go.Proofs.YtmfpikhmeacnbaaDoor.Q Go.Proofs.YtmfpikhmeacnbaaDoorW.PrintWords Go.Proofs.YtmfpikhmeacnbaaDoorW.PrintLast Go.Proofs.YtmfpikhmeacnbaaDoorW.PrintMore
set_option linter.unusedVariables false
set_option linter.unusedSimpArgs false
def noMem (c : Int) : Prop := c = -1 ∨ c = 91 ∨ c = 93 ∨ c = 94 ∨ c = 45
instance (c : Int) : Decidable (noMem c) := by unfold noMem; infer_instance
/-- What stands in a class. -/
def memF (s : ByteArray) (i : Nat) : Res (List S86 × Bool) := match peekF s i with
  | none => .bad i 8
  | some c => if noMem c then .bad i 8 else if c = 92 then escF s (i + 1) else .ok ([⟨c, c⟩], true) (i + rl c)
theorem rune92 : Rune 92 := ⟨by decide, by decide, by decide⟩
theorem esc_ne {s : ByteArray} {i : Nat} {l : List S86} {sg : Bool} {a : Nat} (h : escF s i = .ok (l, sg) a) : l ≠ [] := by
  unfold escF at h
  cases hp : peekF s i with
  | none => rw [hp] at h; cases h
  | some c =>
    rw [hp] at h
    dsimp only at h
    split at h
    · rename_i hs
      injection h with h1 h2
      injection h1 with h1 h3
      rw [← h1]; exact hs
    · split at h
      · cases h
      · injection h with h1 h2
        injection h1 with h1 h3
        rw [← h1]; simp
theorem mem_ne {s : ByteArray} {i : Nat} {l : List S86} {sg : Bool} {a : Nat} (h : memF s i = .ok (l, sg) a) : l ≠ [] := by
  unfold memF at h
  cases hp : peekF s i with
  | none => rw [hp] at h; cases h
  | some c =>
    rw [hp] at h
    dsimp only at h
    split at h
    · cases h
    · split at h
      · exact esc_ne h
      · injection h with h1 h2
        injection h1 with h1 h3
        rw [← h1]; simp
theorem mem_facts {c : Int} (h : ¬ noMem c) : (c == -1) = false ∧ (c == 91) = false ∧ (c == 93) = false ∧ (c == 94) = false ∧ (c == 45) = false := by
  unfold noMem at h
  refine ⟨?_, ?_, ?_, ?_, ?_⟩ <;> (rw [beq_eq_false_iff_ne]; intro e; exact h (by simp [e]))
set_option maxHeartbeats 1000000 in
set_option maxRecDepth 100000 in
theorem mem_ok {w : World} {b : Nat} {s : ByteArray} {at_ d sz : Nat} (h : Rd w b s at_ d sz) {l : List S86} {sg : Bool} {a2 : Nat} (hf : memF s at_ = .ok (l, sg) a2) : Calls Tryd.prog 58 #[.pointer (some ⟨b, 0, none⟩)] w fun x w' => ∃ v, x = .returned (.tuple #[v, .bool sg]) ∧ Rd w' b s a2 d sz ∧ Stp b w w' ∧ Spn w w' v l := by
  unfold memF at hf
  cases hp : peekF s at_ with
  | none => rw [hp] at hf; cases hf
  | some c =>
    rw [hp] at hf
    dsimp only at hf
    have HP := Aside0.mk hp
    have HH := Aside0.mk h
    by_cases hn : noMem c
    · rw [if_pos hn] at hf; cases hf
    rw [if_neg hn] at hf
    have hc : Rune c ∧ at_ + rl c ≤ s.size := (peek_rune h.le hp).resolve_left (fun e => hn (.inl e))
    have HC := Aside0.mk hc
    obtain ⟨f1, f2, f3, f4, f5⟩ := mem_facts hn
    by_cases h92 : c = 92
    · rw [if_pos h92] at hf
      subst h92
      have HF := Aside0.mk (show escF s (at_ + rl 92) = _ from hf)
      clear hf hn hc hp h f1 f2 f3 f4 f5
      go_enter Tryd.func58, Tryd.ntmps58
      go_wp2_with (first
        | (go_at_call 36; (with_reducible refine (peek_ok HH.out HP.out).mono ?_); rintro e w1 ⟨rfl, hb⟩; have HB1 := Aside0.mk hb; have H1 := Aside0.mk (HH.out.below hb); clear hb)
        | (go_at_call 37; (with_reducible refine (skip_calls H1.out rune92 HC.out.2).mono ?_); rintro e w3 ⟨rfl, h3, hs3⟩; have H3 := Aside0.mk h3; have HS3 := Aside0.mk hs3; clear h3 hs3)
        | (go_at_call 53; (with_reducible refine (esc_ok H3.out HF.out).mono ?_); rintro e w4 ⟨v, rfl, h4, hs4, hR⟩; have H4 := Aside0.mk h4; have HS4 := Aside0.mk hs4; have HR := Aside0.mk hR; obtain ⟨g4, c4, rfl, _⟩ := hR; clear h4 hs4))
      go_ret2
      exact ⟨_, rfl, H4.out, (Stp.of HB1.out).trans (HS3.out.trans HS4.out), HR.out.lower (Nat.le_trans HB1.out.size HS3.out.size)⟩
    · rw [if_neg h92] at hf
      injection hf with e1 e2
      injection e1 with e1 e3
      subst e1 e2 e3
      have f6 : (c == 92) = false := beq_eq_false_iff_ne.2 h92
      clear hn hc hp h h92
      go_enter Tryd.func58, Tryd.ntmps58
      go_wp2_with (first
        | (go_at_call 36; (with_reducible refine (peek_ok HH.out HP.out).mono ?_); rintro e w1 ⟨rfl, hb⟩; have HB1 := Aside0.mk hb; have H1 := Aside0.mk (HH.out.below hb); clear hb)
        | (go_at_call 37; (with_reducible refine (skip_calls H1.out HC.out.1 HC.out.2).mono ?_); rintro e w3 ⟨rfl, h3, hs3⟩; have H3 := Aside0.mk h3; have HS3 := Aside0.mk hs3; clear h3 hs3))
      go_ret2
      exact ⟨_, rfl, H3.out.below (below_alloc (Below.refl _ _) _), (Stp.of HB1.out).trans (HS3.out.trans (Stp.of (below_alloc (Below.refl _ _) _))), Spn.mk1 (Nat.le_trans HB1.out.size HS3.out.size) (blk_new _ _)⟩
set_option maxHeartbeats 1000000 in
set_option maxRecDepth 100000 in
theorem mem_bad {w : World} {b : Nat} {s : ByteArray} {at_ d sz : Nat} (h : Rd w b s at_ d sz) {a2 : Nat} {E : Int} (hf : memF s at_ = .bad a2 E) : Calls Tryd.prog 58 #[.pointer (some ⟨b, 0, none⟩)] w fun x w' => x = .panicked (flt a2 E) ∧ Stp b w w' := by
  unfold memF at hf
  cases hp : peekF s at_ with
  | none =>
    rw [hp] at hf
    injection hf with e1 e2
    subst e1 e2
    have HP := Aside0.mk hp
    have HH := Aside0.mk h
    clear hp h
    go_enter Tryd.func58, Tryd.ntmps58
    go_wp2_with (first
      | (go_at_call 36; (with_reducible refine (peek_no HH.out HP.out).mono ?_); rintro e w1 ⟨rfl, hb⟩; have HB1 := Aside0.mk hb; clear hb))
    exact ⟨rfl, rfl, Stp.of HB1.out⟩
  | some c =>
    rw [hp] at hf
    dsimp only at hf
    have HP := Aside0.mk hp
    have HH := Aside0.mk h
    by_cases hn : noMem c
    · rw [if_pos hn] at hf
      injection hf with e1 e2
      subst e1 e2
      clear hp h
      rcases hn with e | e | e | e | e
      all_goals
        subst e
        go_enter Tryd.func58, Tryd.ntmps58
        go_wp2_with (first
          | (go_at_call 36; (with_reducible refine (peek_ok HH.out HP.out).mono ?_); rintro e w1 ⟨rfl, hb⟩; have HB1 := Aside0.mk hb; have H1 := Aside0.mk (HH.out.below hb); clear hb)
          | (go_at_call 23; (with_reducible refine (bad_calls H1.out 8).mono ?_); rintro e w' ⟨rfl, rfl⟩))
        exact ⟨rfl, rfl, Stp.of HB1.out⟩
    rw [if_neg hn] at hf
    have hc : Rune c ∧ at_ + rl c ≤ s.size := (peek_rune h.le hp).resolve_left (fun e => hn (.inl e))
    have HC := Aside0.mk hc
    by_cases h92 : c = 92
    · rw [if_pos h92] at hf
      subst h92
      have HF := Aside0.mk (show escF s (at_ + rl 92) = _ from hf)
      clear hf hn hc hp h
      go_enter Tryd.func58, Tryd.ntmps58
      go_wp2_with (first
        | (go_at_call 36; (with_reducible refine (peek_ok HH.out HP.out).mono ?_); rintro e w1 ⟨rfl, hb⟩; have HB1 := Aside0.mk hb; have H1 := Aside0.mk (HH.out.below hb); clear hb)
        | (go_at_call 37; (with_reducible refine (skip_calls H1.out rune92 HC.out.2).mono ?_); rintro e w3 ⟨rfl, h3, hs3⟩; have H3 := Aside0.mk h3; have HS3 := Aside0.mk hs3; clear h3 hs3)
        | (go_at_call 53; (with_reducible refine (esc_bad H3.out HF.out).mono ?_); rintro e w4 ⟨rfl, hs4⟩; have HS4 := Aside0.mk hs4; clear hs4))
      exact ⟨rfl, rfl, (Stp.of HB1.out).trans (HS3.out.trans HS4.out)⟩
    · rw [if_neg h92] at hf; cases hf
/-- What stands behind a hyphen. -/
def upF (s : ByteArray) (lo : Int) (i : Nat) : Res Int := match peekF s i with
  | none => .bad i 8
  | some c => if c = 92 ∧ lo > 125 then .bad i 8 else match memF s i with
    | .bad a e => .bad a e
    | .ok (l, sg) a => if sg = false ∨ (l.getD 0 z86).f0 < lo then .bad (if c = 92 then i + 1 else i) 8 else .ok (l.getD 0 z86).f0 a
theorem Spn.at0 {w w' : World} {g n c : Nat} {l : List S86} (h : Spn w w' (.slice (some ⟨g, 0, none⟩) n c) l) (hl : l ≠ []) : w'.cell? ⟨g, 0, none⟩ = some (.int .i32 (l.getD 0 z86).f0) ∧ w'.cell? ⟨g, 1, none⟩ = some (.int .i32 (l.getD 0 z86).f1) ∧ (0 : Int) < (n : Int) ∧ n = l.length := by
  obtain ⟨g', c', hv, hR⟩ := h
  have hn := (Kd.R_reads' hR).1
  have hp := List.length_pos_iff.2 hl
  obtain ⟨cs, hl2, hM, hcell, _⟩ := Kd.R_elem hR z86 0 (by omega) (by omega)
  have hk := k86_openM hM
  subst hk
  exact ⟨hcell 0 _ rfl, hcell 1 _ rfl, by omega, hn⟩
set_option maxHeartbeats 1000000 in
set_option maxRecDepth 100000 in
theorem up_ok {w : World} {b : Nat} {s : ByteArray} {at_ d sz : Nat} (h : Rd w b s at_ d sz) {lo hi : Int} {a2 : Nat} (hf : upF s lo at_ = .ok hi a2) : Calls Tryd.prog 59 #[.pointer (some ⟨b, 0, none⟩), .int .i32 lo] w fun x w' => x = .returned (.int .i32 hi) ∧ Rd w' b s a2 d sz ∧ Stp b w w' := by
  unfold upF at hf
  cases hp : peekF s at_ with
  | none => rw [hp] at hf; cases hf
  | some c =>
    rw [hp] at hf
    dsimp only at hf
    have HP := Aside0.mk hp
    have HH := Aside0.mk h
    by_cases hb : c = 92 ∧ lo > 125
    · rw [if_pos hb] at hf; cases hf
    rw [if_neg hb] at hf
    cases hm : memF s at_ with
    | bad a e => rw [hm] at hf; cases hf
    | ok lm a =>
      obtain ⟨l, sg⟩ := lm
      rw [hm] at hf
      dsimp only at hf
      by_cases hx : sg = false ∨ (l.getD 0 z86).f0 < lo
      · rw [if_pos hx] at hf; cases hf
      rw [if_neg hx] at hf
      injection hf with e1 e2
      subst e1 e2
      have hsg : sg = true := by cases sg; exact absurd (.inl rfl) hx; rfl
      subst hsg
      have hlt : ¬ (l.getD 0 z86).f0 < lo := fun e => hx (.inr e)
      have HM := Aside0.mk hm
      have HNE := Aside0.mk (mem_ne hm)
      obtain ⟨c0, c1, c2, c3⟩ := h.cell
      have cq : (c == 92) = false ∨ ((c == 92) = true ∧ ¬ lo > 125) := by
        by_cases e : c = 92
        · exact .inr ⟨by simp [e], fun h => hb ⟨e, h⟩⟩
        · exact .inl (beq_eq_false_iff_ne.2 e)
      generalize hlo : (l.getD 0 z86).f0 = hi at *
      have HLO := Aside0.mk hlo
      clear hx hm hb hp h hlo
      rcases cq with cq | ⟨cq, clo⟩
      all_goals
        go_enter Tryd.func59, Tryd.ntmps59
        go_wp2_with (first
          | (go_at_call 36; (with_reducible refine (peek_ok HH.out HP.out).mono ?_); rintro e w1 ⟨rfl, hb⟩; have HB1 := Aside0.mk hb; have H1 := Aside0.mk (HH.out.below hb); clear hb)
          | (go_at_call 58; (with_reducible refine (mem_ok H1.out HM.out).mono ?_); rintro e w4 ⟨v, rfl, h4, hs4, hR⟩; have H4 := Aside0.mk h4; have HS4 := Aside0.mk hs4; obtain ⟨g4, c4, rfl, _⟩ := id hR; obtain ⟨y0, y1, yn, yl⟩ := Spn.at0 hR HNE.out; rw [HLO.out] at y0; have HR := Aside0.mk hR; generalize l.length = nn at *; clear h4 hs4 hR yl c0 c1 c2 c3))
        go_ret
        exact ⟨rfl, H4.out, (Stp.of HB1.out).trans HS4.out⟩
theorem Rd.setv {w : World} {b : Nat} {s : ByteArray} {at_ d sz a2 : Nat} (h : Rd w b s at_ d sz) {v : Int} (hv : v = (a2 : Int)) (hl : a2 ≤ s.size) : Rd (w.setCell ⟨b, 1, none⟩ (.int .i64 v)) b s a2 d sz := by rw [hv]; exact h.set1 hl
set_option maxHeartbeats 1000000 in
set_option maxRecDepth 100000 in
theorem up_bad {w : World} {b : Nat} {s : ByteArray} {at_ d sz : Nat} (h : Rd w b s at_ d sz) {lo : Int} {a2 : Nat} {E : Int} (hf : upF s lo at_ = .bad a2 E) : Calls Tryd.prog 59 #[.pointer (some ⟨b, 0, none⟩), .int .i32 lo] w fun x w' => x = .panicked (flt a2 E) ∧ Stp b w w' := by
  unfold upF at hf
  obtain ⟨c0, c1, c2, c3⟩ := h.cell
  cases hp : peekF s at_ with
  | none =>
    rw [hp] at hf
    injection hf with e1 e2
    subst e1 e2
    have HP := Aside0.mk hp
    have HH := Aside0.mk h
    clear hp h
    go_enter Tryd.func59, Tryd.ntmps59
    go_wp2_with (first
      | (go_at_call 36; (with_reducible refine (peek_no HH.out HP.out).mono ?_); rintro e w1 ⟨rfl, hb⟩; have HB1 := Aside0.mk hb; clear hb))
    exact ⟨rfl, rfl, Stp.of HB1.out⟩
  | some c =>
    rw [hp] at hf
    dsimp only at hf
    have HP := Aside0.mk hp
    have HH := Aside0.mk h
    have HSH := Aside0.mk h.short
    have HLE := Aside0.mk h.le
    by_cases hb : c = 92 ∧ lo > 125
    · rw [if_pos hb] at hf
      injection hf with e1 e2
      subst e1 e2
      obtain ⟨rfl, hlo⟩ := hb
      clear hp h
      go_enter Tryd.func59, Tryd.ntmps59
      go_wp2_with (first
        | (go_at_call 36; (with_reducible refine (peek_ok HH.out HP.out).mono ?_); rintro e w1 ⟨rfl, hb⟩; have HB1 := Aside0.mk hb; have H1 := Aside0.mk (HH.out.below hb); clear hb)
        | (go_at_call 23; (with_reducible refine (bad_calls H1.out 8).mono ?_); rintro e w' ⟨rfl, rfl⟩))
      exact ⟨rfl, rfl, Stp.of HB1.out⟩
    rw [if_neg hb] at hf
    have cq : ((c == 92) = false ∧ (if c = 92 then at_ + 1 else at_) = at_) ∨ ((c == 92) = true ∧ ¬ lo > 125 ∧ (if c = 92 then at_ + 1 else at_) = at_ + 1 ∧ at_ + 1 ≤ s.size) := by
      by_cases e : c = 92
      · refine .inr ⟨by simp [e], fun h => hb ⟨e, h⟩, if_pos e, ?_⟩
        have := (peek_rune h.le hp).resolve_left (fun e' => by omega)
        have h2 : rl c = 1 := by rw [e]; rfl
        have := this.2
        omega
      · exact .inl ⟨beq_eq_false_iff_ne.2 e, if_neg e⟩
    cases hm : memF s at_ with
    | bad a e =>
      rw [hm] at hf
      injection hf with e1 e2
      subst e1 e2
      have HM := Aside0.mk hm
      clear hm hb hp h
      rcases cq with ⟨cq, _⟩ | ⟨cq, clo, _⟩
      all_goals
        go_enter Tryd.func59, Tryd.ntmps59
        go_wp2_with (first
          | (go_at_call 36; (with_reducible refine (peek_ok HH.out HP.out).mono ?_); rintro e w1 ⟨rfl, hb⟩; have HB1 := Aside0.mk hb; have H1 := Aside0.mk (HH.out.below hb); clear hb)
          | (go_at_call 58; (with_reducible refine (mem_bad H1.out HM.out).mono ?_); rintro e w4 ⟨rfl, hs4⟩; have HS4 := Aside0.mk hs4; clear hs4))
        exact ⟨rfl, rfl, (Stp.of HB1.out).trans HS4.out⟩
    | ok lm a =>
      obtain ⟨l, sg⟩ := lm
      rw [hm] at hf
      dsimp only at hf
      by_cases hx : sg = false ∨ (l.getD 0 z86).f0 < lo
      · rw [if_pos hx] at hf
        injection hf with e1 e2
        subst e2
        have HM := Aside0.mk hm
        have HNE := Aside0.mk (mem_ne hm)
        have hsc : sg = false ∨ (sg = true ∧ (l.getD 0 z86).f0 < lo) := by
          cases sg
          · exact .inl rfl
          · exact .inr ⟨rfl, hx.resolve_left (fun e => by cases e)⟩
        generalize hlo : (l.getD 0 z86).f0 = hi at *
        have HLO := Aside0.mk hlo
        clear hx hm hb hp h hlo
        rcases cq with ⟨cq, ca⟩ | ⟨cq, clo, ca, cl⟩
        · rw [ca] at e1
          subst e1
          clear ca
          rcases hsc with rfl | ⟨rfl, hsc⟩
          all_goals
            go_enter Tryd.func59, Tryd.ntmps59
            go_wp2_with (first
              | (go_at_call 36; (with_reducible refine (peek_ok HH.out HP.out).mono ?_); rintro e w1 ⟨rfl, hb⟩; have HB1 := Aside0.mk hb; have H1 := Aside0.mk (HH.out.below hb); clear hb)
              | (go_at_call 58; (with_reducible refine (mem_ok H1.out HM.out).mono ?_); rintro e w4 ⟨v, rfl, h4, hs4, hR⟩; have H4 := Aside0.mk h4; have HS4 := Aside0.mk hs4; obtain ⟨g4, c4, rfl, _⟩ := id hR; obtain ⟨y0, y1, yn, yl⟩ := Spn.at0 hR HNE.out; rw [HLO.out] at y0; generalize l.length = nn at *; clear c0 c1 c2 c3; have c1 := h4.cell.2.1; have f1 := h4.frozen 1; clear h4 hs4 hR yl)
              | (go_at_call 23; (with_reducible refine (bad_calls (Rd.setv H4.out rfl HLE.out) 8).mono ?_); rintro e w' ⟨rfl, rfl⟩))
            exact ⟨rfl, rfl, (Stp.of HB1.out).trans (HS4.out.trans (Stp.set 1 _))⟩
        · rw [ca] at e1
          subst e1
          clear ca
          have HW := Aside0.mk (show wrap64 ((at_ : Int) + 1) = ((at_ + 1 : Nat) : Int) by have := HSH.out; have := HLE.out; unfold wrap64; omega)
          have HCL := Aside0.mk cl
          clear cl
          rcases hsc with rfl | ⟨rfl, hsc⟩
          all_goals
            go_enter Tryd.func59, Tryd.ntmps59
            go_wp2_with (first
              | (go_at_call 36; (with_reducible refine (peek_ok HH.out HP.out).mono ?_); rintro e w1 ⟨rfl, hb⟩; have HB1 := Aside0.mk hb; have H1 := Aside0.mk (HH.out.below hb); clear hb)
              | (go_at_call 58; (with_reducible refine (mem_ok H1.out HM.out).mono ?_); rintro e w4 ⟨v, rfl, h4, hs4, hR⟩; have H4 := Aside0.mk h4; have HS4 := Aside0.mk hs4; obtain ⟨g4, c4, rfl, _⟩ := id hR; obtain ⟨y0, y1, yn, yl⟩ := Spn.at0 hR HNE.out; rw [HLO.out] at y0; generalize l.length = nn at *; clear c0 c1 c2 c3; have c1 := h4.cell.2.1; have f1 := h4.frozen 1; clear h4 hs4 hR yl)
              | (go_at_call 23; (with_reducible refine (bad_calls (Rd.setv H4.out HW.out HCL.out) 8).mono ?_); rintro e w' ⟨rfl, rfl⟩))
            exact ⟨rfl, rfl, (Stp.of HB1.out).trans (HS4.out.trans (Stp.set 1 _))⟩
      · rw [if_neg hx] at hf; cases hf
--MORE
end Go.Proofs.YtmfpikhmeacnbaaDoor.X

/- Patterns by hand: trees in memory, what is parsed (mkX4.py). -/
namespace Go.Proofs.YtmfpikhmeacnbaaDoor.X
open Go.RowKit Go.Proofs.YtmfpikhmeacnbaaDoor.Q Go.Proofs.YtmfpikhmeacnbaaDoorW.PrintWords Go.Proofs.YtmfpikhmeacnbaaDoorW.PrintLast Go.Proofs.YtmfpikhmeacnbaaDoorW.PrintMore
set_option linter.unusedVariables false
set_option linter.unusedSimpArgs false
section
variable {P : Program} {ops : Array Oper} {Q : Exit → Act → World → Prop}
theorem callP_ {oi : Oper} {N : Option Tmp} {a : Act} {w : World} {K : Act → World → Prop} (f : FuncId) (args : Array Value) (hw : Region.wanted oi (yielded ops a.tmps) = true) (hN : oi.dst = N) (hrun : (execOp a.eval oi).run P w = .ok (.enter f args) w)
    (h : Calls P f args w fun e w' => ∃ c, e = .panicked c ∧ Q (.panic c) a w') : if Region.wanted oi (yielded ops a.tmps) = true then Oper.wp P oi a w K Q else K (a.put N undef) w := by
  rw [if_pos hw]
  subst hN
  unfold Oper.wp
  rw [hrun, Oper.upon_enter]
  refine h.mono fun e w'' hh => ?_
  obtain ⟨v, rfl, hk⟩ := hh
  exact hk
/-- A call in a drawn region that panics. -/
theorem goesP_ {oi : Oper} {N : Option Tmp} {a : Act} {w : World} {K : Act → World → Prop} {f : FuncId} {fn : Func} {az : Array Operand} {ts : Array TypeId} (hf : P.funcs[f]? = some fn) (hname : (fn.name == "runtime.NumGoroutine") = false) (hb : fn.body.isSome = true) (args : Array Value)
    (hw : Region.wanted oi (yielded ops a.tmps) = true) (hN : oi.dst = N) (hop : oi.op = .call { callee := .value (.func f), args := az, argTypes := ts }) (hargs : az.map a.eval = args)
    (h : Calls P f args w fun e w' => ∃ c, e = .panicked c ∧ Q (.panic c) a w') : if Region.wanted oi (yielded ops a.tmps) = true then Oper.wp P oi a w K Q else K (a.put N undef) w := by
  refine callP_ f args hw hN ?_ h
  have he := enters_ hf hname hb args w
  unfold execOp
  simp [hop, resolve, Deferred.ofValue, invoke, Act.eval, hargs, he]
end
/-- A pattern's parts: eps, cat are 'many', alt1, alt are 'alike'; lists from the back. -/
inductive Pt where
  | one (l : List S86) (but plain : Bool)
  | eps
  | cat (q p : Pt)
  | alt1 (p : Pt)
  | alt (q p : Pt)
  | again (p : Pt) (s : Int)
def Pt.kind : Pt → Int
  | .one _ _ _ => 0
  | .eps => 1
  | .cat _ _ => 1
  | .alt1 _ => 2
  | .alt _ _ => 2
  | .again _ _ => 3
def Pt.but : Pt → Bool
  | .one _ b _ => b
  | _ => false
def Pt.plain : Pt → Bool
  | .one _ _ p => p
  | _ => false
def Pt.set : Pt → List S86
  | .one l _ _ => l
  | _ => []
def Pt.sign : Pt → Int
  | .again _ s => s
  | _ => 0
/-- A part's block. -/
def ndL (k : Int) (vs : Value) (but plain : Bool) (vp : Value) (sg : Int) : List Value := [.int .i64 k, vs, .bool but, .bool plain, vp, .int .i32 sg]
def kP : Kd Nat := Kd.scalar (fun b : Nat => Value.pointer (some ⟨b, 0, none⟩)) (fun _ => rfl)
/-- The block q is the part p, of the parts at cs. -/
def Nd (w : World) (B : Nat) (ok : Nat → Prop) (q : Nat) (p : Pt) (cs : List Nat) : Prop := ok q ∧ B ≤ q ∧ ∃ vs vp, w.heap[q]? = some (.cells (ndL p.kind vs p.but p.plain vp p.sign).toArray 74 (0, 0)) ∧ k86.R 86 w B ok vs p.set ∧ kP.R 41 w B ok vp cs
/-- The parts at bs are those of p. -/
def TT (w : World) (B : Nat) (ok : Nat → Prop) : Pt → List Nat → Prop
  | .one _ _ _, bs => bs = []
  | .eps, bs => bs = []
  | .cat q p, bs => ∃ bs' b cs, bs = bs' ++ [b] ∧ TT w B ok q bs' ∧ TT w B ok p cs ∧ Nd w B ok b p cs
  | .alt1 p, bs => ∃ b cs, bs = [b] ∧ TT w B ok p cs ∧ Nd w B ok b p cs
  | .alt q p, bs => ∃ bs' b cs, bs = bs' ++ [b] ∧ TT w B ok q bs' ∧ TT w B ok p cs ∧ Nd w B ok b p cs
  | .again p _, bs => ∃ b cs, bs = [b] ∧ TT w B ok p cs ∧ Nd w B ok b p cs
/-- The block q is the root of the tree p. -/
def Tr (w : World) (B : Nat) (ok : Nat → Prop) (q : Nat) (p : Pt) : Prop := ∃ cs, TT w B ok p cs ∧ Nd w B ok q p cs
section
variable {w w1 : World} {B B' q : Nat} {ok ok' : Nat → Prop} {p : Pt} {cs : List Nat}
theorem Nd.lt (h : Nd w B ok q p cs) : q < w.heap.size := by
  obtain ⟨_, _, vs, vp, hq, _⟩ := h
  exact (Array.getElem?_eq_some_iff.1 hq).1
theorem Nd.turn (h : Nd w B ok q p cs) (hB : B' ≤ B) (hm : ∀ k, B ≤ k → k < w.heap.size → ok k → ok' k ∧ w1.heap[k]? = w.heap[k]?) : Nd w1 B' ok' q p cs := by
  have hlt := h.lt
  obtain ⟨h1, h2, vs, vp, hq, hs, hp⟩ := h
  obtain ⟨g1, g2⟩ := hm q h2 hlt h1
  refine ⟨g1, by omega, vs, vp, g2.trans hq, ?_, ?_⟩
  · refine Kd.R_lower (Kd.R_mono (Kd.R_step (Kd.R_bound hs) (fun k hk _ => (hm k hk.2.1 hk.2.2.1 hk.1).2)) (fun k hk => (hm k hk.2.1 hk.2.2.1 hk.1).1)) hB
  · refine Kd.R_lower (Kd.R_mono (Kd.R_step (Kd.R_bound hp) (fun k hk _ => (hm k hk.2.1 hk.2.2.1 hk.1).2)) (fun k hk => (hm k hk.2.1 hk.2.2.1 hk.1).1)) hB
theorem TT.turn (hB : B' ≤ B) (hm : ∀ k, B ≤ k → k < w.heap.size → ok k → ok' k ∧ w1.heap[k]? = w.heap[k]?) : ∀ {p : Pt} {cs : List Nat}, TT w B ok p cs → TT w1 B' ok' p cs
  | .one _ _ _, _, h => h
  | .eps, _, h => h
  | .cat q p, _, ⟨bs', b, c, e, h1, h2, h3⟩ => ⟨bs', b, c, e, TT.turn hB hm h1, TT.turn hB hm h2, h3.turn hB hm⟩
  | .alt1 p, _, ⟨b, c, e, h2, h3⟩ => ⟨b, c, e, TT.turn hB hm h2, h3.turn hB hm⟩
  | .alt q p, _, ⟨bs', b, c, e, h1, h2, h3⟩ => ⟨bs', b, c, e, TT.turn hB hm h1, TT.turn hB hm h2, h3.turn hB hm⟩
  | .again p _, _, ⟨b, c, e, h2, h3⟩ => ⟨b, c, e, TT.turn hB hm h2, h3.turn hB hm⟩
theorem Tr.turn (h : Tr w B ok q p) (hB : B' ≤ B) (hm : ∀ k, B ≤ k → k < w.heap.size → ok k → ok' k ∧ w1.heap[k]? = w.heap[k]?) : Tr w1 B' ok' q p := by
  obtain ⟨cs, h1, h2⟩ := h
  exact ⟨cs, TT.turn hB hm h1, h2.turn hB hm⟩
end
/-- The rounds of a class. -/
def clsL : Nat → ByteArray → Nat → List S86 → Bool → Option (Res (List S86))
  | 0, _, _, _, _ => none
  | k + 1, s, i, acc, first =>
    match (if first = true then some 0 else peekF s i) with
    | none => some (.bad i 8)
    | some c => if c = 93 then some (.ok acc i) else
      match memF s i with
      | .bad a e => some (.bad a e)
      | .ok (l, sg) j => if sg = true then
          match peekF s j with
          | none => some (.bad j 8)
          | some c2 => if c2 = 45 then
              match upF s (l.getD 0 z86).f0 (j + 1) with
              | .bad a e => some (.bad a e)
              | .ok hi j2 => clsL k s j2 (acc ++ [⟨(l.getD 0 z86).f0, hi⟩]) false
            else clsL k s j (acc ++ l) false
        else clsL k s j (acc ++ l) false
/-- A class. -/
def clsF (k : Nat) (s : ByteArray) (i : Nat) : Option (Res (Pt × Nat)) := match peekF s i with
  | none => some (.bad i 8)
  | some c => match clsL k s (if c = 94 then i + 1 else i) [] true with
    | none => none
    | some (.bad a e) => some (.bad a e)
    | some (.ok l j) => some (.ok (.one l (decide (c = 94)) false, 1) (j + 1))
mutual
/-- Branches behind one, pieces, an atom, a pattern. -/
def altF : Nat → ByteArray → Nat → Nat → Pt → Nat → Option (Res (Pt × Nat))
  | 0, _, _, _, _, _ => none
  | k + 1, s, d, i, acc, n => match peekF s i with
    | none => some (.bad i 8)
    | some c => if c = 124 then
        match brF k s d (i + 1) .eps 0 with
        | none => none
        | some (.bad a e) => some (.bad a e)
        | some (.ok (p, m) j) => altF k s d j (.alt acc p) (n + m)
      else some (.ok (acc, n) i)
def brF : Nat → ByteArray → Nat → Nat → Pt → Nat → Option (Res (Pt × Nat))
  | 0, _, _, _, _, _ => none
  | k + 1, s, d, i, acc, n => match peekF s i with
    | none => some (.bad i 8)
    | some c => if c < 0 ∨ c = 124 ∨ c = 41 then some (.ok (acc, n) i) else
      match atF k s d i with
      | none => none
      | some (.bad a e) => some (.bad a e)
      | some (.ok (p, m) j) => match peekF s j with
        | none => some (.bad j 8)
        | some c2 => if c2 = 42 ∨ c2 = 43 ∨ c2 = 63 then brF k s d (j + 1) (.cat acc (.again p c2)) (n + m) else brF k s d j (.cat acc p) (n + m)
def atF : Nat → ByteArray → Nat → Nat → Option (Res (Pt × Nat))
  | 0, _, _, _ => none
  | k + 1, s, d, i => match peekF s i with
    | none => some (.bad i 8)
    | some c => if c = 40 then
        if 20 ≤ d then some (.bad i 60) else
        match paF k s (d + 1) (i + 1) with
        | none => none
        | some (.bad a e) => some (.bad a e)
        | some (.ok (p, m) j) => match peekF s j with
          | none => some (.bad j 8)
          | some c2 => if c2 = 41 then some (.ok (p, m) (j + 1)) else some (.bad j 8)
      else if c = 91 then clsF k s (i + 1)
      else if c = 46 then some (.ok (.one [] true false, 1) (i + 1))
      else if c = 92 then
        match escF s (i + 1) with
        | .bad a e => some (.bad a e)
        | .ok (l, sg) j => some (.ok (.one l false sg, 1) j)
      else if special c = true ∨ c < 0 then some (.bad i 8)
      else some (.ok (.one [⟨c, c⟩] false true, 1) (i + rl c))
def paF : Nat → ByteArray → Nat → Nat → Option (Res (Pt × Nat))
  | 0, _, _, _ => none
  | k + 1, s, d, i => match brF k s d i .eps 0 with
    | none => none
    | some (.bad a e) => some (.bad a e)
    | some (.ok (p, m) j) => altF k s d j (.alt1 p) m
end
end Go.Proofs.YtmfpikhmeacnbaaDoor.X
