import Derived.Test.YtkdbojaoaldmbaaGA
/- The disk by hand: New, Cut, Remove, Read. -/
namespace Go.Proofs.Ytkdbojaoaldmbaa.G
open Go.RowKit Go.Proofs.Ytkdbojaoaldmbaa.Q Go.Proofs.YtkdbojaoaldmbaaW.PrintWords Go.Proofs.YtkdbojaoaldmbaaW.PrintLast Go.Proofs.YtkdbojaoaldmbaaW.PrintMore
set_option linter.unusedVariables false
set_option linter.unusedSimpArgs false
def cut.T6 : Bool × List (List Nat × List Nat) := (true, [([], []), ([0], [0]), ([1], [1]), ([2], [2]), ([], []), ([4], [4]), ([5], [5]), ([6], [6]), ([7], [7]), ([], []), ([8, 9], [8, 9]), ([3, 10], [3, 10]), ([0, 0, 1, 2, 3, 4, 5, 6, 7, 8, 9, 10, 11], [0]), ([12, 0, 1, 2, 3, 4, 5, 6, 7, 8, 9, 10, 11], [12]), ([13, 11, 0, 1, 2, 3, 4, 5, 6, 7, 8, 9, 10, 11], [11, 13])])
def cut.B6 : List Nat := [0, 1, 3, 7, 0, 16, 48, 112, 240, 0, 1008, 2047, 4095, 8191, 16383]
theorem cut.tab6 : rtab .any (opsOf Try.f27 6) = cut.T6 := by kernel_rfl
theorem cut.bits6 : waitsOk cut.T6.2 cut.B6 = true := by kernel_rfl
def remove.T3 : Bool × List (List Nat × List Nat) := (true, [([], []), ([0], [0]), ([1], [1]), ([2], [2]), ([], []), ([4], [4]), ([5], [5]), ([6], [6]), ([7], [7]), ([3, 8], [3, 8]), ([0, 0, 1, 2, 3, 4, 5, 6, 7, 8, 9], [0]), ([10, 0, 1, 2, 3, 4, 5, 6, 7, 8, 9], [10]), ([11, 9, 0, 1, 2, 3, 4, 5, 6, 7, 8, 9], [9, 11])])
def remove.B3 : List Nat := [0, 1, 3, 7, 0, 16, 48, 112, 240, 511, 1023, 2047, 4095]
theorem remove.tab3 : rtab .any (opsOf Try.f22 3) = remove.T3 := by kernel_rfl
theorem remove.bits3 : waitsOk remove.T3.2 remove.B3 = true := by kernel_rfl
theorem wrap_id {n : Int} (h0 : -9223372036854775808 ≤ n) (h1 : n ≤ 9223372036854775807) : wrap64 n = n := by unfold wrap64; omega
section
variable {w w' : World} {D M B : Nat} {room : Int} {dat dat' : Nat → Prop} {fs : ByteArray → Option Raw} {st : St}
/-! Cut -/
def cutE (st : St) (s : ByteArray) (n : Int) : Int := match look st s with | some f => if 0 ≤ n ∧ n ≤ f.b.length then 0 else 1 | none => 4
def cutS (st : St) (s : ByteArray) (n : Int) : St := match look st s with | some f => if 0 ≤ n ∧ n ≤ f.b.length then put st ⟨f.n, f.b.take n.toNat, n⟩ else st | none => st
set_option maxHeartbeats 1000000 in
set_option maxRecDepth 100000 in
theorem cut_calls (h : DiskG w D M room B dat fs st) (s : ByteArray) (n : Int) : Calls Try.prog 27 #[.pointer (some ⟨D, 0, none⟩), .string s, .int .i64 n] w fun e w' => e = .returned (.int .i64 (cutE st s n)) ∧ Left w D M room B dat fs (cutS st s n) w' := by
  rcases h.files.at_ s with ⟨h1, h2⟩ | ⟨r, f, h1, h2, hf⟩
  · have e1 : cutE st s n = 4 := by unfold cutE; rw [h2]
    have e2 : cutS st s n = st := by unfold cutS; rw [h2]
    rw [e1, e2]
    clear h2 e1 e2
    go_enter Try.func27, Try.ntmps27
    go_wp2_with (go_at_call 33; (with_reducible refine (find_no h s h1).mono ?_); rintro e w9 ⟨rfl, hw9⟩; subst w9)
    go_ret
    exact ⟨rfl, left_same h (Below.refl _ _)⟩
  · obtain ⟨f0, f1, z0, z1⟩ := hf.cell
    have HS := Aside0.mk h1
    have HL := Aside0.mk h2
    have HF := Aside0.mk hf
    have HD := Aside0.mk h
    clear h1 hf h
    by_cases hn : 0 ≤ n ∧ n ≤ f.b.length
    · have e1 : cutE st s n = 0 := by unfold cutE; rw [h2]; exact if_pos hn
      have e2 : cutS st s n = put st ⟨f.n, f.b.take n.toNat, n⟩ := by unfold cutS; rw [h2]; exact if_pos hn
      rw [e1, e2]
      clear h2 e1 e2
      obtain ⟨n0, n1⟩ := hn
      have n2 : ¬ n < 0 := by omega
      have n3 : ¬ n > (f.b.length : Int) := by omega
      go_enter Try.func27, Try.ntmps27
      go_wp2_with (go_at_call 33; (with_reducible refine (find_yes HD.out s r HS.out).mono ?_); rintro e w9 ⟨rfl, hw9⟩; subst w9)
      refine start_ (n := 15) (S := fun w' => w'.cell? ⟨D, 2, none⟩ = some (.int .i64 (total st)) ∧ w'.cell? ⟨r.F, 0, none⟩ = some (.slice r.A f.b.length r.c)) (ds := [14]) #[false, false, false, false, false, false, false, false, false, false, false, false, false, false, false] (by kernel_rfl) rfl rfl ⟨HD.out.cell.2.2.1, f0⟩ (fun hHeld => ?_); refine with_tabW cut.tab6 cut.bits6 (fun HT_ HW_ => ?_)
      refine pure_ (i := 0) (N := some 29) (v := ?_) (a' := ?_) #[true, false, false, false, false, false, false, false, false, false, false, false, false, false, false] rfl rfl (any_of HT_.out (by kernel_rfl)) (fun _ _ _ h => h) (Or.inl ⟨by rfl, ?_⟩) ?_ ?_
      rotate_left
      · intro w'
        go_simp
        with_reducible rfl
      rotate_left
      · simp only [Act.put, List.setIfInBounds_toArray, List.set_cons_zero, List.set_cons_succ, i64_w, i32_w, xu32_w, xu8_w]
        rfl
      refine pure_ (i := 1) (N := some 30) (v := ?_) (a' := ?_) #[true, true, false, false, false, false, false, false, false, false, false, false, false, false, false] rfl rfl (any_of HT_.out (by kernel_rfl)) (fun _ _ _ h => h) (Or.inl ⟨by rfl, ?_⟩) ?_ ?_
      rotate_left
      · intro w'
        go_simp
        with_reducible rfl
      rotate_left
      · simp only [Act.put, List.setIfInBounds_toArray, List.set_cons_zero, List.set_cons_succ, i64_w, i32_w, xu32_w, xu8_w]
        rfl
      refine pure_ (i := 2) (N := some 31) (v := ?_) (a' := ?_) #[true, true, true, false, false, false, false, false, false, false, false, false, false, false, false] rfl rfl (any_of HT_.out (by kernel_rfl)) (fun _ _ _ h => h) (Or.inl ⟨by rfl, ?_⟩) ?_ ?_
      rotate_left
      · intro w'
        go_simp
        with_reducible rfl
      rotate_left
      · simp only [Act.put, List.setIfInBounds_toArray, List.set_cons_zero, List.set_cons_succ, i64_w, i32_w, xu32_w, xu8_w]
        rfl
      refine pure_ (i := 4) (N := some 33) (v := ?_) (a' := ?_) #[true, true, true, false, true, false, false, false, false, false, false, false, false, false, false] rfl rfl (any_of HT_.out (by kernel_rfl)) (fun _ _ _ h => h) (Or.inl ⟨by rfl, ?_⟩) ?_ ?_
      rotate_left
      · intro w'
        go_simp
        with_reducible rfl
      rotate_left
      · simp only [Act.put, List.setIfInBounds_toArray, List.set_cons_zero, List.set_cons_succ, i64_w, i32_w, xu32_w, xu8_w]
        rfl
      refine pure_ (i := 5) (N := some 34) (v := ?_) (a' := ?_) #[true, true, true, false, true, true, false, false, false, false, false, false, false, false, false] rfl rfl (any_of HT_.out (by kernel_rfl)) (fun _ _ _ h => h) (Or.inl ⟨by rfl, ?_⟩) ?_ ?_
      rotate_left
      · intro w'
        go_simp
        with_reducible rfl
      rotate_left
      · simp only [Act.put, List.setIfInBounds_toArray, List.set_cons_zero, List.set_cons_succ, i64_w, i32_w, xu32_w, xu8_w]
        rfl
      refine pure_ (i := 6) (N := some 35) (v := ?_) (a' := ?_) #[true, true, true, false, true, true, true, false, false, false, false, false, false, false, false] rfl rfl (any_of HT_.out (by kernel_rfl)) (fun _ _ _ h => h) (Or.inl ⟨by rfl, ?_⟩) ?_ ?_
      rotate_left
      · intro w'
        go_simp
        with_reducible rfl
      rotate_left
      · simp only [Act.put, List.setIfInBounds_toArray, List.set_cons_zero, List.set_cons_succ, i64_w, i32_w, xu32_w, xu8_w]
        rfl
      refine pure_ (i := 9) (N := some 38) (v := ?_) (a' := ?_) #[true, true, true, false, true, true, true, false, false, true, false, false, false, false, false] rfl rfl (any_of HT_.out (by kernel_rfl)) (fun _ _ _ h => h) (Or.inl ⟨by rfl, ?_⟩) ?_ ?_
      rotate_left
      · intro w'
        go_simp
        with_reducible rfl
      rotate_left
      · simp only [Act.put, List.setIfInBounds_toArray, List.set_cons_zero, List.set_cons_succ, i64_w, i32_w, xu32_w, xu8_w]
        rfl
      refine take_ (i := 3) (N := some 32) (v := ?_) (a' := ?_) #[true, true, true, true, true, true, true, false, false, true, false, false, false, false, false] rfl rfl (take_ofW HT_.out HW_.out (by kernel_rfl)) (fun _ _ _ h => h) (Or.inl ⟨by rfl, ?_⟩) hHeld ?_ ?_
      rotate_left
      · rintro w' ⟨s0, s1⟩
        go_simp
        with_reducible rfl
      rotate_left
      · simp only [Act.put, List.setIfInBounds_toArray, List.set_cons_zero, List.set_cons_succ, i64_w, i32_w, xu32_w, xu8_w]
        rfl
      refine take_ (i := 7) (N := some 36) (v := ?_) (a' := ?_) #[true, true, true, true, true, true, true, true, false, true, false, false, false, false, false] rfl rfl (take_ofW HT_.out HW_.out (by kernel_rfl)) (fun _ _ _ h => h) (Or.inl ⟨by rfl, ?_⟩) hHeld ?_ ?_
      rotate_left
      · rintro w' ⟨s0, s1⟩
        go_simp
        with_reducible rfl
      rotate_left
      · simp only [Act.put, List.setIfInBounds_toArray, List.set_cons_zero, List.set_cons_succ, i64_w, i32_w, xu32_w, xu8_w]
        rfl
      refine pure_ (i := 8) (N := some 37) (v := ?_) (a' := ?_) #[true, true, true, true, true, true, true, true, true, true, false, false, false, false, false] rfl rfl (any_of HT_.out (by kernel_rfl)) (fun _ _ _ h => h) (Or.inl ⟨by rfl, ?_⟩) ?_ ?_
      rotate_left
      · intro w'
        go_simp
        with_reducible rfl
      rotate_left
      · simp only [Act.put, List.setIfInBounds_toArray, List.set_cons_zero, List.set_cons_succ, i64_w, i32_w, xu32_w, xu8_w]
        rfl
      refine pure_ (i := 10) (N := some 39) (v := ?_) (a' := ?_) #[true, true, true, true, true, true, true, true, true, true, true, false, false, false, false] rfl rfl (any_of HT_.out (by kernel_rfl)) (fun _ _ _ h => h) (Or.inl ⟨by rfl, ?_⟩) ?_ ?_
      rotate_left
      · intro w'
        go_simp
        with_reducible rfl
      rotate_left
      · simp only [Act.put, List.setIfInBounds_toArray, List.set_cons_zero, List.set_cons_succ, i64_w, i32_w, xu32_w, xu8_w]
        rfl
      refine pure_ (i := 11) (N := some 40) (v := ?_) (a' := ?_) #[true, true, true, true, true, true, true, true, true, true, true, true, false, false, false] rfl rfl (any_of HT_.out (by kernel_rfl)) (fun _ _ _ h => h) (Or.inl ⟨by rfl, ?_⟩) ?_ ?_
      rotate_left
      · intro w'
        go_simp
        with_reducible rfl
      rotate_left
      · simp only [Act.put, List.setIfInBounds_toArray, List.set_cons_zero, List.set_cons_succ, i64_w, i32_w, xu32_w, xu8_w]
        rfl
      refine pure_ (i := 12) (N := some 41) (v := ?_) (a' := ?_) #[true, true, true, true, true, true, true, true, true, true, true, true, true, false, false] rfl rfl (any_of HT_.out (by kernel_rfl)) (fun _ _ _ h => h) (Or.inl ⟨by rfl, ?_⟩) ?_ ?_
      rotate_left
      · intro w'
        go_simp
        with_reducible rfl
      rotate_left
      · simp only [Act.put, List.setIfInBounds_toArray, List.set_cons_zero, List.set_cons_succ, i64_w, i32_w, xu32_w, xu8_w]
        rfl
      refine pure_ (i := 13) (N := some 42) (v := ?_) (a' := ?_) #[true, true, true, true, true, true, true, true, true, true, true, true, true, true, false] rfl rfl (any_of HT_.out (by kernel_rfl)) (fun _ _ _ h => h) (Or.inl ⟨by rfl, ?_⟩) ?_ ?_
      rotate_left
      · intro w'
        go_simp
        with_reducible rfl
      rotate_left
      · simp only [Act.put, List.setIfInBounds_toArray, List.set_cons_zero, List.set_cons_succ, i64_w, i32_w, xu32_w, xu8_w]
        rfl
      refine last_ (i := 14) (N := none) #[true, true, true, true, true, true, true, true, true, true, true, true, true, true, true] rfl rfl (one_of HT_.out (by kernel_rfl)) (by decide) (fun K hK => ?_)
      have hcB := HD.out.cell.2.2.1
      have hfB := HD.out.cell.2.2.2
      refine skip_ (w1 := w.drew.setCell ⟨D, 2, none⟩ (.int .i64 _)) (by rfl) rfl (by first | (go_simp; done) | (go_simp; rfl)) ?_
      refine hK.out _ _ ?_
      clear hK K hcB hfB
      refine done_ (done_of HT_.out (by kernel_rfl)) ?_
      obtain ⟨i5, hi5, _⟩ := Option.map_eq_some_iff.1 info5
      have hsl := cut_to3 (P := Try.prog) 29 5 .i64 .i64 Try.underlying29 hi5 r.A f.b.length r.c n n0 n1 HF.out.cap
      clear hi5 hHeld HT_ HW_
      have hne := HD.out.notD HS.out
      have hF2 : (w.drew.setCell ⟨D, 2, none⟩ (.int .i64 (wrap64 ((total st : Int) - wrap64 ((f.b.length : Int) - n))))).heap[r.F]? = some (.cells #[.slice r.A f.b.length r.c, .int .i64 f.l] 68 (0, 0)) := (Below.heap_setCell _ _ _ r.F hne.1).trans HF.out.cells
      have q0 := (blk_cell hF2 0).trans rfl
      have q1 := (blk_cell hF2 1).trans rfl
      have q2 := blk_frozen hF2 0
      have q3 := blk_frozen hF2 1
      go_wp2_with (fail)
      go_ret
      have hnn : f.n = s := (look_mem HL.out).2
      have htl : (f.b.take n.toNat).length = n.toNat := by rw [List.length_take]; omega
      have htp := (total_put ⟨f.n, f.b.take n.toNat, n⟩ HD.out.files.sorted).1
      rw [hnn, HL.out] at htp
      dsimp only at htp
      rw [htl] at htp
      have hfit := HD.out.fit
      have hr1 := HD.out.room1
      have hll := look_len HL.out
      have hv : wrap64 ((total st : Int) - wrap64 ((f.b.length : Int) - n)) = (total (put st ⟨f.n, f.b.take n.toNat, n⟩) : Int) := by
        rw [hnn, wrap_id (n := (f.b.length : Int) - n) (by omega) (by omega), wrap_id (by omega) (by omega)]
        omega
      rw [hv]
      clear q0 q1 q2 q3 hF2 hsl
      have hF0 : (w.setCell ⟨D, 2, none⟩ (.int .i64 (total (put st ⟨f.n, f.b.take n.toNat, n⟩) : Int))).heap[r.F]? = some (.cells #[.slice r.A f.b.length r.c, .int .i64 f.l] 68 (0, 0)) := (Below.heap_setCell _ _ _ r.F hne.1).trans HF.out.cells
      have hF3 := blk_put (blk_put hF0 0 (.slice r.A n.toNat n.toNat) rfl) 1 (.int .i64 n) rfl
      have hc : Chg (fun k => k = D ∨ k = r.F) w (((w.setCell ⟨D, 2, none⟩ (.int .i64 (total (put st ⟨f.n, f.b.take n.toNat, n⟩) : Int))).setCell ⟨r.F, 0, none⟩ (.slice r.A n.toNat n.toNat)).setCell ⟨r.F, 1, none⟩ (.int .i64 n)) := (((Chg.refl _ w).set _ _ (.inl rfl)).set _ _ (.inr rfl)).set _ _ (.inr rfl)
      have hD1 := blk_put HD.out.cells 2 (.int .i64 (total (put st ⟨f.n, f.b.take n.toNat, n⟩) : Int)) rfl
      have hD3 : (((w.setCell ⟨D, 2, none⟩ (.int .i64 (total (put st ⟨f.n, f.b.take n.toNat, n⟩) : Int))).setCell ⟨r.F, 0, none⟩ (.slice r.A n.toNat n.toNat)).setCell ⟨r.F, 1, none⟩ (.int .i64 n)).heap[D]? = some (.cells #[.map (some M), .int .i64 room, .int .i64 (total (put st ⟨f.n, f.b.take n.toNat, n⟩) : Int)] 57 (0, 0)) := by
        rw [Below.heap_setCell _ _ _ D (fun e => hne.1 e.symm), Below.heap_setCell _ _ _ D (fun e => hne.1 e.symm)]; exact hD1
      have hdt : ∀ ad, r.A = some ad → (((w.setCell ⟨D, 2, none⟩ (.int .i64 (total (put st ⟨f.n, f.b.take n.toNat, n⟩) : Int))).setCell ⟨r.F, 0, none⟩ (.slice r.A n.toNat n.toNat)).setCell ⟨r.F, 1, none⟩ (.int .i64 n)).heap[ad.block]? = w.heap[ad.block]? := fun ad e => by
        obtain ⟨g1, g2, cs, fz, g3⟩ := HF.out.data ad e
        have hdd := HD.out.datne g1
        exact hc.block _ (heap_lt g3) (fun e2 => e2.elim hdd.1 (hdd.2.2 s r HS.out))
      refine ⟨rfl, left_file HD.out HS.out HL.out ⟨r.F, r.A, n.toNat⟩ ⟨f.n, f.b.take n.toNat, n⟩ hnn rfl hc.size hD3 ?_ ⟨by rw [htl]; exact hF3, row_move (Kd.C_take HF.out.row (by omega)) hdt, by rw [htl]; exact Nat.le_refl _, fun ad e => ?_, HF.out.base, n0, ?_⟩ ⟨hc.os, hc.tape, hc.output, hc.size, hc.block⟩⟩
      · rw [hnn]; omega
      · obtain ⟨g1, g2, cs, fz, g3⟩ := HF.out.data ad e
        exact ⟨g1, g2, cs, fz, (hdt ad e).trans g3⟩
      · show n ≤ ((f.b.take n.toNat).length : Int)
        rw [htl]; omega
    · have e1 : cutE st s n = 1 := by unfold cutE; rw [h2]; exact if_neg hn
      have e2 : cutS st s n = st := by unfold cutS; rw [h2]; exact if_neg hn
      rw [e1, e2]
      clear h2 e1 e2
      have hn2 : n < 0 ∨ (¬ n < 0 ∧ n > (f.b.length : Int)) := by omega
      clear hn
      rcases hn2 with n2 | ⟨n2, n3⟩
      all_goals
        go_enter Try.func27, Try.ntmps27
        go_wp2_with (go_at_call 33; (with_reducible refine (find_yes HD.out s r HS.out).mono ?_); rintro e w9 ⟨rfl, hw9⟩; subst w9)
        go_ret
        exact ⟨rfl, left_same HD.out (Below.refl _ _)⟩
end
end Go.Proofs.Ytkdbojaoaldmbaa.G

/- The disk by hand: Remove, Read, New. -/
namespace Go.Proofs.Ytkdbojaoaldmbaa.G
open Go.RowKit Go.Proofs.Ytkdbojaoaldmbaa.Q Go.Proofs.YtkdbojaoaldmbaaW.PrintWords Go.Proofs.YtkdbojaoaldmbaaW.PrintLast Go.Proofs.YtkdbojaoaldmbaaW.PrintMore
set_option linter.unusedVariables false
set_option linter.unusedSimpArgs false
section
variable {w w' : World} {D M B : Nat} {room : Int} {dat dat' : Nat → Prop} {fs : ByteArray → Option Raw} {st : St}
/-! Remove -/
def removeE (st : St) (s : ByteArray) : Int := match look st s with | some f => 0 | none => 4
def removeS (st : St) (s : ByteArray) : St := match look st s with | some f => drop st s | none => st
set_option maxHeartbeats 1000000 in
set_option maxRecDepth 100000 in
theorem remove_calls (h : DiskG w D M room B dat fs st) (s : ByteArray) : Calls Try.prog 22 #[.pointer (some ⟨D, 0, none⟩), .string s] w fun e w' => e = .returned (.int .i64 (removeE st s)) ∧ Left w D M room B dat fs (removeS st s) w' := by
  rcases h.files.at_ s with ⟨h1, h2⟩ | ⟨r, f, h1, h2, hf⟩
  · have e1 : removeE st s = 4 := by unfold removeE; rw [h2]
    have e2 : removeS st s = st := by unfold removeS; rw [h2]
    rw [e1, e2]
    clear h2 e1 e2
    go_enter Try.func22, Try.ntmps22
    go_wp2_with (go_at_call 33; (with_reducible refine (find_no h s h1).mono ?_); rintro e w9 ⟨rfl, hw9⟩; subst w9)
    go_ret
    exact ⟨rfl, left_same h (Below.refl _ _)⟩
  · have e1 : removeE st s = 0 := by unfold removeE; rw [h2]
    have e2 : removeS st s = drop st s := by unfold removeS; rw [h2]
    rw [e1, e2]
    clear e1 e2
    obtain ⟨f0, f1, z0, z1⟩ := hf.cell
    have HS := Aside0.mk h1
    have HL := Aside0.mk h2
    have HF := Aside0.mk hf
    have HD := Aside0.mk h
    clear h1 h2 hf h
    go_enter Try.func22, Try.ntmps22
    go_wp2_with (go_at_call 33; (with_reducible refine (find_yes HD.out s r HS.out).mono ?_); rintro e w9 ⟨rfl, hw9⟩; subst w9)
    refine start_ (n := 13) (S := fun w' => w'.cell? ⟨D, 2, none⟩ = some (.int .i64 (total st)) ∧ w'.cell? ⟨r.F, 0, none⟩ = some (.slice r.A f.b.length r.c)) (ds := [12]) #[false, false, false, false, false, false, false, false, false, false, false, false, false] (by kernel_rfl) rfl rfl ⟨HD.out.cell.2.2.1, f0⟩ (fun hHeld => ?_); refine with_tabW remove.tab3 remove.bits3 (fun HT_ HW_ => ?_)
    refine pure_ (i := 0) (N := some 15) (v := ?_) (a' := ?_) #[true, false, false, false, false, false, false, false, false, false, false, false, false] rfl rfl (any_of HT_.out (by kernel_rfl)) (fun _ _ _ h => h) (Or.inl ⟨by rfl, ?_⟩) ?_ ?_
    rotate_left
    · intro w'
      go_simp
      with_reducible rfl
    rotate_left
    · simp only [Act.put, List.setIfInBounds_toArray, List.set_cons_zero, List.set_cons_succ, i64_w, i32_w, xu32_w, xu8_w]
      rfl
    refine pure_ (i := 1) (N := some 16) (v := ?_) (a' := ?_) #[true, true, false, false, false, false, false, false, false, false, false, false, false] rfl rfl (any_of HT_.out (by kernel_rfl)) (fun _ _ _ h => h) (Or.inl ⟨by rfl, ?_⟩) ?_ ?_
    rotate_left
    · intro w'
      go_simp
      with_reducible rfl
    rotate_left
    · simp only [Act.put, List.setIfInBounds_toArray, List.set_cons_zero, List.set_cons_succ, i64_w, i32_w, xu32_w, xu8_w]
      rfl
    refine pure_ (i := 2) (N := some 17) (v := ?_) (a' := ?_) #[true, true, true, false, false, false, false, false, false, false, false, false, false] rfl rfl (any_of HT_.out (by kernel_rfl)) (fun _ _ _ h => h) (Or.inl ⟨by rfl, ?_⟩) ?_ ?_
    rotate_left
    · intro w'
      go_simp
      with_reducible rfl
    rotate_left
    · simp only [Act.put, List.setIfInBounds_toArray, List.set_cons_zero, List.set_cons_succ, i64_w, i32_w, xu32_w, xu8_w]
      rfl
    refine pure_ (i := 4) (N := some 19) (v := ?_) (a' := ?_) #[true, true, true, false, true, false, false, false, false, false, false, false, false] rfl rfl (any_of HT_.out (by kernel_rfl)) (fun _ _ _ h => h) (Or.inl ⟨by rfl, ?_⟩) ?_ ?_
    rotate_left
    · intro w'
      go_simp
      with_reducible rfl
    rotate_left
    · simp only [Act.put, List.setIfInBounds_toArray, List.set_cons_zero, List.set_cons_succ, i64_w, i32_w, xu32_w, xu8_w]
      rfl
    refine pure_ (i := 5) (N := some 20) (v := ?_) (a' := ?_) #[true, true, true, false, true, true, false, false, false, false, false, false, false] rfl rfl (any_of HT_.out (by kernel_rfl)) (fun _ _ _ h => h) (Or.inl ⟨by rfl, ?_⟩) ?_ ?_
    rotate_left
    · intro w'
      go_simp
      with_reducible rfl
    rotate_left
    · simp only [Act.put, List.setIfInBounds_toArray, List.set_cons_zero, List.set_cons_succ, i64_w, i32_w, xu32_w, xu8_w]
      rfl
    refine pure_ (i := 6) (N := some 21) (v := ?_) (a' := ?_) #[true, true, true, false, true, true, true, false, false, false, false, false, false] rfl rfl (any_of HT_.out (by kernel_rfl)) (fun _ _ _ h => h) (Or.inl ⟨by rfl, ?_⟩) ?_ ?_
    rotate_left
    · intro w'
      go_simp
      with_reducible rfl
    rotate_left
    · simp only [Act.put, List.setIfInBounds_toArray, List.set_cons_zero, List.set_cons_succ, i64_w, i32_w, xu32_w, xu8_w]
      rfl
    refine take_ (i := 3) (N := some 18) (v := ?_) (a' := ?_) #[true, true, true, true, true, true, true, false, false, false, false, false, false] rfl rfl (take_ofW HT_.out HW_.out (by kernel_rfl)) (fun _ _ _ h => h) (Or.inl ⟨by rfl, ?_⟩) hHeld ?_ ?_
    rotate_left
    · rintro w' ⟨s0, s1⟩
      go_simp
      with_reducible rfl
    rotate_left
    · simp only [Act.put, List.setIfInBounds_toArray, List.set_cons_zero, List.set_cons_succ, i64_w, i32_w, xu32_w, xu8_w]
      rfl
    refine take_ (i := 7) (N := some 22) (v := ?_) (a' := ?_) #[true, true, true, true, true, true, true, true, false, false, false, false, false] rfl rfl (take_ofW HT_.out HW_.out (by kernel_rfl)) (fun _ _ _ h => h) (Or.inl ⟨by rfl, ?_⟩) hHeld ?_ ?_
    rotate_left
    · rintro w' ⟨s0, s1⟩
      go_simp
      with_reducible rfl
    rotate_left
    · simp only [Act.put, List.setIfInBounds_toArray, List.set_cons_zero, List.set_cons_succ, i64_w, i32_w, xu32_w, xu8_w]
      rfl
    refine pure_ (i := 8) (N := some 23) (v := ?_) (a' := ?_) #[true, true, true, true, true, true, true, true, true, false, false, false, false] rfl rfl (any_of HT_.out (by kernel_rfl)) (fun _ _ _ h => h) (Or.inl ⟨by rfl, ?_⟩) ?_ ?_
    rotate_left
    · intro w'
      go_simp
      with_reducible rfl
    rotate_left
    · simp only [Act.put, List.setIfInBounds_toArray, List.set_cons_zero, List.set_cons_succ, i64_w, i32_w, xu32_w, xu8_w]
      rfl
    refine pure_ (i := 9) (N := some 24) (v := ?_) (a' := ?_) #[true, true, true, true, true, true, true, true, true, true, false, false, false] rfl rfl (any_of HT_.out (by kernel_rfl)) (fun _ _ _ h => h) (Or.inl ⟨by rfl, ?_⟩) ?_ ?_
    rotate_left
    · intro w'
      go_simp
      with_reducible rfl
    rotate_left
    · simp only [Act.put, List.setIfInBounds_toArray, List.set_cons_zero, List.set_cons_succ, i64_w, i32_w, xu32_w, xu8_w]
      rfl
    refine pure_ (i := 10) (N := some 25) (v := ?_) (a' := ?_) #[true, true, true, true, true, true, true, true, true, true, true, false, false] rfl rfl (any_of HT_.out (by kernel_rfl)) (fun _ _ _ h => h) (Or.inl ⟨by rfl, ?_⟩) ?_ ?_
    rotate_left
    · intro w'
      go_simp
      with_reducible rfl
    rotate_left
    · simp only [Act.put, List.setIfInBounds_toArray, List.set_cons_zero, List.set_cons_succ, i64_w, i32_w, xu32_w, xu8_w]
      rfl
    refine pure_ (i := 11) (N := some 26) (v := ?_) (a' := ?_) #[true, true, true, true, true, true, true, true, true, true, true, true, false] rfl rfl (any_of HT_.out (by kernel_rfl)) (fun _ _ _ h => h) (Or.inl ⟨by rfl, ?_⟩) ?_ ?_
    rotate_left
    · intro w'
      go_simp
      with_reducible rfl
    rotate_left
    · simp only [Act.put, List.setIfInBounds_toArray, List.set_cons_zero, List.set_cons_succ, i64_w, i32_w, xu32_w, xu8_w]
      rfl
    refine last_ (i := 12) (N := none) #[true, true, true, true, true, true, true, true, true, true, true, true, true] rfl rfl (one_of HT_.out (by kernel_rfl)) (by decide) (fun K hK => ?_)
    have hcB := HD.out.cell.2.2.1
    have hfB := HD.out.cell.2.2.2
    refine skip_ (w1 := w.drew.setCell ⟨D, 2, none⟩ (.int .i64 _)) (by rfl) rfl (by first | (go_simp; done) | (go_simp; rfl)) ?_
    refine hK.out _ _ ?_
    clear hK K hcB hfB
    refine done_ (done_of HT_.out (by kernel_rfl)) ?_
    clear hHeld HT_ HW_
    have hne := HD.out.notD HS.out
    have htd := (total_drop s HD.out.files.sorted).1
    rw [HL.out] at htd
    dsimp only at htd
    have hfit := HD.out.fit
    have hr1 := HD.out.room1
    have hv : wrap64 ((total st : Int) - (f.b.length : Int)) = (total (drop st s) : Int) := by
      rw [wrap_id (by omega) (by omega)]; omega
    rw [hv]
    have hD1 := blk_put HD.out.cells 2 (.int .i64 (total (drop st s) : Int)) rfl
    have hDM := HD.out.DM
    have hM1 : MapF ((w.setCell ⟨D, 2, none⟩ (.int .i64 (total (drop st s) : Int))).drew) M (fun s => (fs s).map (fun r => .pointer (some ⟨r.F, 0, none⟩))) := HD.out.files.map.move (Below.heap_setCell _ _ _ M (fun e => hDM e.symm))
    obtain ⟨w2, hdel, hM2, q1, q2, q3, q4, q5⟩ := MapF.drop (P := Try.prog) (ty := 0) Try.underlying55 Try.underlying9 hM1 s
    have hD2 : ((w.setCell ⟨D, 2, none⟩ (.int .i64 (total (drop st s) : Int))).drew).cell? ⟨D, 0, none⟩ = some (.map (some M)) := (blk_cell hD1 0).trans rfl
    have HQ := Aside0.mk (And.intro q1 (And.intro q2 (And.intro q3 (And.intro q4 q5))))
    have HM := Aside0.mk hM2
    have HV := Aside0.mk (And.intro hne (And.intro htd (And.intro hDM hD1)))
    clear q1 q2 q3 q4 q5 hM2 hM1 hne htd hDM hD1 hfit hr1 hv hD2
    have hc0 := HD.out.cell.1
    go_wp2_with (fail)
    go_ret
    obtain ⟨q1, q2, q3, q4, q5⟩ := HQ.out
    obtain ⟨hne, htd, hDM, hD1⟩ := HV.out
    refine ⟨rfl, left_del HD.out s ?_ ((q5 D hDM).trans hD1) HM.out ?_⟩
    · rw [q4]; simp [World.drew]
    · refine ⟨q1.trans rfl, q2.trans rfl, q3.trans rfl, ?_, fun k hk hn => ?_⟩
      · rw [q4]; simp [World.drew]
      · exact (q5 k (fun e => hn (.inr e))).trans (Below.heap_setCell _ _ _ k (fun e => hn (.inl e)))
/-! Read -/
def readE (st : St) (s : ByteArray) : Int := match look st s with | some f => 0 | none => 4
def readB (st : St) (s : ByteArray) : List Int := match look st s with | some f => f.b | none => []
theorem file_small (h : DiskG w D M room B dat fs st) {s : ByteArray} {f : FS} (hl : look st s = some f) : f.b.length ≤ 16777216 := by
  have h1 := look_len hl
  have h2 := h.fit
  have h3 := h.room1
  omega
set_option maxHeartbeats 1000000 in
set_option maxRecDepth 100000 in
theorem read_calls (h : DiskG w D M room B dat fs st) (s : ByteArray) : Calls Try.prog 13 #[.pointer (some ⟨D, 0, none⟩), .string s] w fun e w' => ∃ v, e = .returned (.tuple #[v, .int .i64 (readE st s)]) ∧ (Kd.int .u8).R 5 w' w.heap.size (fun _ => True) v (readB st s) ∧ Below w.heap.size w w' := by
  rcases h.files.at_ s with ⟨h1, h2⟩ | ⟨r, f, h1, h2, hf⟩
  · have e1 : readE st s = 4 := by unfold readE; rw [h2]
    have e2 : readB st s = [] := by unfold readB; rw [h2]
    rw [e1, e2]
    clear h2 e1 e2
    go_enter Try.func13, Try.ntmps13
    go_wp2_with (go_at_call 33; (with_reducible refine (find_no h s h1).mono ?_); rintro e w9 ⟨rfl, hw9⟩; subst w9)
    go_ret2
    exact ⟨_, rfl, Kd.R_nil _ _ _ _ _, Below.refl _ _⟩
  · have e1 : readE st s = 0 := by unfold readE; rw [h2]
    have e2 : readB st s = f.b := by unfold readB; rw [h2]
    rw [e1, e2]
    clear e1 e2
    obtain ⟨f0, f1, z0, z1⟩ := hf.cell
    have HS := Aside0.mk h1
    have HL := Aside0.mk h2
    have HF := Aside0.mk hf
    have HD := Aside0.mk h
    have hsm := file_small h h2
    clear h1 h2 hf h
    go_enter Try.func13, Try.ntmps13
    go_wp2_with (first | (go_at_call 33; (with_reducible refine (find_yes HD.out s r HS.out).mono ?_); rintro e w9 ⟨rfl, hw9⟩; subst w9) | ((with_reducible refine gate_dst (N := 17) rfl ?_); refine Kd.R_lit (Kd.int .u8) w.heap.size 5 ?hg (N := 17) ?hd (xs := ([] : List Int)) (inner := []) (ok := fun _ => True) (okp := fun _ => True) ?hr ?hp (fun _ hk => hk) trivial (Below.refl _ _) (Nat.le_refl _) (by simp) ?_; (case hd => rfl); (case hg => rfl); (case hr => first | (go_simp; done) | (go_simp; rfl)); (case hp => exact (Reps.none _ _)); intro v1 w1 ho hb hg_ hnew_; have g0 := (hb.cell (World.block_lt_of_cell? w _ f0)).trans f0; have HO := Aside0.mk ho; have HB := Aside0.mk hb; clear ho hb hg_ hnew_) | ((with_reducible refine gate_builtin (b := .append) (xs := #[.tmp 17, .tmp 21]) rfl ?_); at_builtin; refine Kd.R_append_rows (Kd.int .u8) (w0 := w) w.heap.size rfl (.tmp 17) (.tmp 21) 29 5 (.int .u8 0) 1 rfl Try.underlying29 info5 rfl (by decide) (by omega) v1 [] f.b _ _ _ (fun _ => True) (fun _ => False) rfl rfl ?aO ?aR (fun _ _ h => h) (fun _ h => h.elim) ?aF ?aB ?aS ?aL ?_; (case aR => exact Kd.C_below HF.out.row HB.out); (case aB => exact HB.out); (case aF => exact (fun _ _ => trivial)); (case aO => exact HO.out); (case aS => exact HB.out.size); (case aL => simp; omega); intro v2 w2 ho2 hb2 hg2 hat2; have HO2 := Aside0.mk ho2; have HB2 := Aside0.mk hb2; clear ho2 hb2 hg2 hat2))
    go_ret2
    exact ⟨_, rfl, HO2.out, HB2.out⟩
end
end Go.Proofs.Ytkdbojaoaldmbaa.G

/- The disk by hand: Swap. -/
namespace Go.Proofs.Ytkdbojaoaldmbaa.G
open Go.RowKit Go.Proofs.Ytkdbojaoaldmbaa.Q Go.Proofs.YtkdbojaoaldmbaaW.PrintWords Go.Proofs.YtkdbojaoaldmbaaW.PrintLast Go.Proofs.YtkdbojaoaldmbaaW.PrintMore
set_option linter.unusedVariables false
set_option linter.unusedSimpArgs false
def swap.T6 : Bool × List (List Nat × List Nat) := (true, [([], []), ([0], [0]), ([1], [1]), ([2], [2]), ([], []), ([4], [4]), ([5], [5]), ([6], [6]), ([7], [7]), ([3, 8], [3, 8]), ([9], [9])])
def swap.B6 : List Nat := [0, 1, 3, 7, 0, 16, 48, 112, 240, 511, 1023]
theorem swap.tab6 : rtab .any (opsOf Try.f28 6) = swap.T6 := by kernel_rfl
theorem swap.bits6 : waitsOk swap.T6.2 swap.B6 = true := by kernel_rfl
def swap.T12 : Bool × List (List Nat × List Nat) := (true, [([], []), ([0], [0]), ([1], [1]), ([2], [2]), ([], []), ([4], [4]), ([5], [5]), ([6], [6]), ([7], [7]), ([3, 8], [3, 8]), ([0, 0, 1, 2, 3, 4, 5, 6, 7, 8, 9], [0]), ([10, 0, 1, 2, 3, 4, 5, 6, 7, 8, 9], [10]), ([11, 9, 0, 1, 2, 3, 4, 5, 6, 7, 8, 9], [9, 11])])
def swap.B12 : List Nat := [0, 1, 3, 7, 0, 16, 48, 112, 240, 511, 1023, 2047, 4095]
theorem swap.tab12 : rtab .any (opsOf Try.f28 12) = swap.T12 := by kernel_rfl
theorem swap.bits12 : waitsOk swap.T12.2 swap.B12 = true := by kernel_rfl
section
variable {w w' w9 : World} {D M B : Nat} {room : Int} {dat dat' : Nat → Prop} {fs : ByteArray → Option Raw} {st st' : St}
theorem Left.pre (hb : Below w.heap.size w w9) (h : Left w9 D M room B dat fs st' w') : Left w D M room B dat fs st' w' := by
  obtain ⟨dat', fs', h1, h2, h3, h4, h5⟩ := h
  have hz := hb.size
  exact ⟨dat', fs', h1, (Chg.of_below (Mine D M fs) hb).trans h2 (fun _ _ e => e) (fun _ _ e => e), fun k hk => (h3 k hk).elim .inl (fun e => .inr (by omega)), h4, fun s r hs => (h5 s r hs).elim .inl (fun e => .inr (by omega))⟩
theorem drawn_below {w w' : World} (h : Drawn0 w w') : Below w.heap.size w w' := by
  obtain ⟨n, rfl⟩ := h
  exact ⟨rfl, rfl, rfl, Nat.le_refl _, fun _ _ => rfl⟩
/-- A file has another name; what had it is gone. -/
def swapS (st : St) (s t : ByteArray) (f : FS) : St := put (G.drop st s) ⟨t, f.b, f.l⟩
theorem swap_total (hs : Sorted st) {s t : ByteArray} {f : FS} (hl : look st s = some f) (hne : s ≠ t) : total (swapS st s t f) + (match look st t with | some g => g.b.length | none => 0) = total st ∧ (swapS st s t f).length ≤ st.length := by
  have h1 := total_drop s hs
  have h2 := total_put ⟨t, f.b, f.l⟩ (drop_sorted s hs)
  rw [hl] at h1
  rw [look_drop, if_neg (fun e => hne e.symm)] at h2
  dsimp only at h1
  unfold swapS
  rw [if_neg (by simp)] at h1
  cases hk : look st t with
  | none =>
    rw [hk] at h2
    dsimp only at h2 ⊢
    rw [if_pos rfl] at h2
    omega
  | some g =>
    rw [hk] at h2
    dsimp only at h2 ⊢
    rw [if_neg (by simp)] at h2
    omega
theorem left_move (h : DiskG w D M room B dat fs st) {s t : ByteArray} {r : Raw} {f : FS} (hs : fs s = some r) (hl : look st s = some f) (hne : s ≠ t) (ht : t.size ≤ 32)
    (hD : w'.heap[D]? = some (.cells #[.map (some M), .int .i64 room, .int .i64 (total (swapS st s t f))] 57 (0, 0)))
    (hM : MapF w' M (fun u => if u = s then none else if u = t then some (.pointer (some ⟨r.F, 0, none⟩)) else (fs u).map (fun r => .pointer (some ⟨r.F, 0, none⟩))))
    (hc : Chg (fun k => k = D ∨ k = M) w w') : Left w D M room B dat fs (swapS st s t f) w' := by
  obtain ⟨ht1, ht2⟩ := swap_total h.files.sorted hl hne
  have hfg := h.files.some_ s r f hs hl
  have hF : ∀ u q, fs u = some q → w'.heap[q.F]? = w.heap[q.F]? := fun u q hq => hc.block _ (h.files.lt hq) (fun e => by
    have := h.notD hq
    rcases e with e | e
    · exact this.1 e
    · exact this.2 e)
  have hd : ∀ k, dat k → w'.heap[k]? = w.heap[k]? := fun k hk => hc.block _ (h.files.datlt k hk) (fun e => by
    have := h.datne hk
    rcases e with e | e
    · exact this.1 e
    · exact this.2.1 e)
  have hdel := h.files.toFilesR.del (w' := w') s (fun u q _ hq => hF u q hq) hd hc.size
  have hg' : FileG w' B dat r ⟨t, f.b, f.l⟩ := by
    have := hfg.move (hF s r hs) (fun k hk _ => hd k hk)
    exact ⟨this.cells, this.row, this.cap, this.data, this.base, this.low, this.high⟩
  have hup := hdel.upd (w' := w') (dat' := dat) r ⟨t, f.b, f.l⟩ ht hg' (fun u q hu hq => by
    dsimp only at hq hu
    by_cases hus : u = s
    · rw [if_pos hus] at hq; cases hq
    · rw [if_neg hus] at hq
      exact ⟨rfl, fun e => hus (h.files.inj u s q r hq hs e)⟩) (fun k hk => ⟨hk, rfl⟩) hdel.rows5
  refine ⟨dat, _, ⟨hD, ⟨hup, ?_, h.files.baseM⟩, h.baseD, h.room0, h.room1, ?_, ?_⟩, hc.mono (fun k _ e => ?_), fun _ h => .inl h, fun _ h => h, fun u q hq => ?_⟩
  · have hG : (fun u => ((fun u => if u = t then some r else if u = s then none else fs u) u).map (fun r => Value.pointer (some ⟨r.F, 0, none⟩))) = (fun u => if u = s then none else if u = t then some (.pointer (some ⟨r.F, 0, none⟩)) else (fs u).map (fun r => Value.pointer (some ⟨r.F, 0, none⟩))) := by
      funext u
      dsimp only
      by_cases h1 : u = t
      · rw [if_pos h1, if_neg (fun e => hne (by rw [← e, h1])), if_pos h1]; rfl
      · rw [if_neg h1]
        by_cases h2 : u = s
        · rw [if_pos h2, if_pos h2]; rfl
        · rw [if_neg h2, if_neg h2, if_neg h1]
    rw [← hG] at hM
    exact hM
  · have := h.fit; omega
  · have := h.few; omega
  · rcases e with e | e
    · exact .inl e
    · exact .inr (.inl e)
  · dsimp only at hq
    by_cases h1 : u = t
    · rw [if_pos h1] at hq; cases hq; exact .inl ⟨s, r, hs, rfl⟩
    · rw [if_neg h1] at hq
      by_cases h2 : u = s
      · rw [if_pos h2] at hq; cases hq
      · rw [if_neg h2] at hq; exact .inl ⟨u, q, hq, rfl⟩
/-! Swap -/
def swapE (st : St) (s t : ByteArray) : Int := match look st s with | none => 4 | some f => if titleB t = true then (if f.l < f.b.length then 7 else 0) else 110
def swapSt (st : St) (s t : ByteArray) : St := match look st s with | none => st | some f => if titleB t = true then (if f.l < f.b.length then st else if s = t then st else swapS st s t f) else st
theorem neq_nil (F : Addr) (W : World) : (binOp .neq 64 (.pointer (some F)) (.pointer none)).run Try.prog W = .ok (.bool true) W := by kernel_rfl
theorem neq_nil0 (W : World) : (binOp .neq 64 (.pointer none) (.pointer none)).run Try.prog W = .ok (.bool false) W := by kernel_rfl
theorem eq_nil (F : Addr) (W : World) : (binOp .eql 64 (.pointer (some F)) (.pointer none)).run Try.prog W = .ok (.bool false) W := by kernel_rfl
theorem eq_nil0 (W : World) : (binOp .eql 64 (.pointer none) (.pointer none)).run Try.prog W = .ok (.bool true) W := by kernel_rfl
set_option maxHeartbeats 2000000 in
set_option maxRecDepth 100000 in
theorem swap_calls (h : DiskG w D M room B dat fs st) (s t : ByteArray) (htz : t.size ≤ 9223372036854775807) : Calls Try.prog 28 #[.pointer (some ⟨D, 0, none⟩), .string s, .string t] w fun e w' => e = .returned (.int .i64 (swapE st s t)) ∧ Left w D M room B dat fs (swapSt st s t) w' := by
  rcases h.files.at_ s with ⟨h1, h2⟩ | ⟨r, f, h1, h2, hf⟩
  · have e1 : swapE st s t = 4 := by unfold swapE; rw [h2]
    have e2 : swapSt st s t = st := by unfold swapSt; rw [h2]
    rw [e1, e2]
    clear h2 e1 e2
    go_enter Try.func28, Try.ntmps28
    go_wp2_with (go_at_call 33; (with_reducible refine (find_no h s h1).mono ?_); rintro e w9 ⟨rfl, hw9⟩; subst w9)
    go_ret
    exact ⟨rfl, left_same h (Below.refl _ _)⟩
  · have HS := Aside0.mk h1
    have HL := Aside0.mk h2
    have HF := Aside0.mk hf
    have HD := Aside0.mk h
    clear h1 h2 hf h
    by_cases ht : titleB t = true
    case neg =>
      have e1 : swapE st s t = 110 := by unfold swapE; rw [HL.out]; exact if_neg ht
      have e2 : swapSt st s t = st := by unfold swapSt; rw [HL.out]; exact if_neg ht
      have ht' : titleB t = false := by simpa using ht
      rw [e1, e2]
      clear e1 e2 ht
      go_enter Try.func28, Try.ntmps28
      go_wp2_with (first | (go_at_call 33; (with_reducible refine (find_yes HD.out s r HS.out).mono ?_); rintro e w9 ⟨rfl, hw9⟩; subst w9) | (go_at_call 34; (with_reducible refine (title_calls t htz _).mono ?_); rintro e w9 ⟨rfl, hw9⟩; rw [ht']; have HB := Aside0.mk (drawn_below hw9); clear hw9))
      go_ret
      exact ⟨rfl, left_same HD.out HB.out⟩
    case pos =>
    by_cases hq : f.l < f.b.length
    case pos =>
      have e1 : swapE st s t = 7 := by unfold swapE; rw [HL.out]; exact (if_pos ht).trans (if_pos hq)
      have e2 : swapSt st s t = st := by unfold swapSt; rw [HL.out]; exact (if_pos ht).trans (if_pos hq)
      rw [e1, e2]
      clear e1 e2
      go_enter Try.func28, Try.ntmps28
      go_wp2_with (first | (go_at_call 33; (with_reducible refine (find_yes HD.out s r HS.out).mono ?_); rintro e w9 ⟨rfl, hw9⟩; subst w9) | (go_at_call 34; (with_reducible refine (title_calls t htz _).mono ?_); rintro e w9 ⟨rfl, hw9⟩; rw [ht]; have HB := Aside0.mk (drawn_below hw9); clear hw9))
      refine start_ (n := 11) (S := fun w' => w'.cell? ⟨r.F, 1, none⟩ = some (.int .i64 f.l) ∧ w'.cell? ⟨r.F, 0, none⟩ = some (.slice r.A f.b.length r.c)) (ds := []) #[false, false, false, false, false, false, false, false, false, false, false] (by kernel_rfl) rfl rfl ⟨(HF.out.move (w' := w9) (HB.out.block _ (heap_lt HF.out.cells)) (fun k _ hk => HB.out.block k hk)).cell.2.1, (HF.out.move (w' := w9) (HB.out.block _ (heap_lt HF.out.cells)) (fun k _ hk => HB.out.block k hk)).cell.1⟩ (fun hHeld => ?_); refine with_tabW swap.tab6 swap.bits6 (fun HT_ HW_ => ?_)
      refine pure_ (i := 0) (N := some 25) (v := ?_) (a' := ?_) #[true, false, false, false, false, false, false, false, false, false, false] rfl rfl (any_of HT_.out (by kernel_rfl)) (fun _ _ _ h => h) (Or.inl ⟨by rfl, ?_⟩) ?_ ?_
      rotate_left
      · intro w'
        go_simp
        with_reducible rfl
      rotate_left
      · simp only [Act.put, List.setIfInBounds_toArray, List.set_cons_zero, List.set_cons_succ, i64_w, i32_w, xu32_w, xu8_w]
        rfl
      refine pure_ (i := 1) (N := some 26) (v := ?_) (a' := ?_) #[true, true, false, false, false, false, false, false, false, false, false] rfl rfl (any_of HT_.out (by kernel_rfl)) (fun _ _ _ h => h) (Or.inl ⟨by rfl, ?_⟩) ?_ ?_
      rotate_left
      · intro w'
        go_simp
        with_reducible rfl
      rotate_left
      · simp only [Act.put, List.setIfInBounds_toArray, List.set_cons_zero, List.set_cons_succ, i64_w, i32_w, xu32_w, xu8_w]
        rfl
      refine pure_ (i := 2) (N := some 27) (v := ?_) (a' := ?_) #[true, true, true, false, false, false, false, false, false, false, false] rfl rfl (any_of HT_.out (by kernel_rfl)) (fun _ _ _ h => h) (Or.inl ⟨by rfl, ?_⟩) ?_ ?_
      rotate_left
      · intro w'
        go_simp
        with_reducible rfl
      rotate_left
      · simp only [Act.put, List.setIfInBounds_toArray, List.set_cons_zero, List.set_cons_succ, i64_w, i32_w, xu32_w, xu8_w]
        rfl
      refine pure_ (i := 4) (N := some 29) (v := ?_) (a' := ?_) #[true, true, true, false, true, false, false, false, false, false, false] rfl rfl (any_of HT_.out (by kernel_rfl)) (fun _ _ _ h => h) (Or.inl ⟨by rfl, ?_⟩) ?_ ?_
      rotate_left
      · intro w'
        go_simp
        with_reducible rfl
      rotate_left
      · simp only [Act.put, List.setIfInBounds_toArray, List.set_cons_zero, List.set_cons_succ, i64_w, i32_w, xu32_w, xu8_w]
        rfl
      refine pure_ (i := 5) (N := some 30) (v := ?_) (a' := ?_) #[true, true, true, false, true, true, false, false, false, false, false] rfl rfl (any_of HT_.out (by kernel_rfl)) (fun _ _ _ h => h) (Or.inl ⟨by rfl, ?_⟩) ?_ ?_
      rotate_left
      · intro w'
        go_simp
        with_reducible rfl
      rotate_left
      · simp only [Act.put, List.setIfInBounds_toArray, List.set_cons_zero, List.set_cons_succ, i64_w, i32_w, xu32_w, xu8_w]
        rfl
      refine pure_ (i := 6) (N := some 31) (v := ?_) (a' := ?_) #[true, true, true, false, true, true, true, false, false, false, false] rfl rfl (any_of HT_.out (by kernel_rfl)) (fun _ _ _ h => h) (Or.inl ⟨by rfl, ?_⟩) ?_ ?_
      rotate_left
      · intro w'
        go_simp
        with_reducible rfl
      rotate_left
      · simp only [Act.put, List.setIfInBounds_toArray, List.set_cons_zero, List.set_cons_succ, i64_w, i32_w, xu32_w, xu8_w]
        rfl
      refine take_ (i := 3) (N := some 28) (v := ?_) (a' := ?_) #[true, true, true, true, true, true, true, false, false, false, false] rfl rfl (take_ofW HT_.out HW_.out (by kernel_rfl)) (fun _ _ _ h => h) (Or.inl ⟨by rfl, ?_⟩) hHeld ?_ ?_
      rotate_left
      · rintro w' ⟨s0, s1⟩
        go_simp
        with_reducible rfl
      rotate_left
      · simp only [Act.put, List.setIfInBounds_toArray, List.set_cons_zero, List.set_cons_succ, i64_w, i32_w, xu32_w, xu8_w]
        rfl
      refine take_ (i := 7) (N := some 32) (v := ?_) (a' := ?_) #[true, true, true, true, true, true, true, true, false, false, false] rfl rfl (take_ofW HT_.out HW_.out (by kernel_rfl)) (fun _ _ _ h => h) (Or.inl ⟨by rfl, ?_⟩) hHeld ?_ ?_
      rotate_left
      · rintro w' ⟨s0, s1⟩
        go_simp
        with_reducible rfl
      rotate_left
      · simp only [Act.put, List.setIfInBounds_toArray, List.set_cons_zero, List.set_cons_succ, i64_w, i32_w, xu32_w, xu8_w]
        rfl
      refine pure_ (i := 8) (N := some 33) (v := ?_) (a' := ?_) #[true, true, true, true, true, true, true, true, true, false, false] rfl rfl (any_of HT_.out (by kernel_rfl)) (fun _ _ _ h => h) (Or.inl ⟨by rfl, ?_⟩) ?_ ?_
      rotate_left
      · intro w'
        go_simp
        with_reducible rfl
      rotate_left
      · simp only [Act.put, List.setIfInBounds_toArray, List.set_cons_zero, List.set_cons_succ, i64_w, i32_w, xu32_w, xu8_w]
        rfl
      refine pure_ (i := 9) (N := some 34) (v := ?_) (a' := ?_) #[true, true, true, true, true, true, true, true, true, true, false] rfl rfl (any_of HT_.out (by kernel_rfl)) (fun _ _ _ h => h) (Or.inl ⟨by rfl, ?_⟩) ?_ ?_
      rotate_left
      · intro w'
        go_simp
        with_reducible rfl
      rotate_left
      · simp only [Act.put, List.setIfInBounds_toArray, List.set_cons_zero, List.set_cons_succ, i64_w, i32_w, xu32_w, xu8_w]
        rfl
      refine pure_ (i := 10) (N := some 24) (v := ?_) (a' := ?_) #[true, true, true, true, true, true, true, true, true, true, true] rfl rfl (any_of HT_.out (by kernel_rfl)) (fun _ _ _ h => h) (Or.inl ⟨by rfl, ?_⟩) ?_ ?_
      rotate_left
      · intro w'
        go_simp
        with_reducible rfl
      rotate_left
      · simp only [Act.put, List.setIfInBounds_toArray, List.set_cons_zero, List.set_cons_succ, i64_w, i32_w, xu32_w, xu8_w]
        rfl
      refine done_ (done_of HT_.out (by kernel_rfl)) ?_
      clear hHeld HT_ HW_
      go_wp2_with (fail)
      go_ret
      exact ⟨rfl, left_same HD.out (below_drew1 HB.out)⟩
    case neg =>
    have hqb := eq_false hq
    by_cases hst : s = t
    case pos =>
      have e1 : swapE st s t = 0 := by unfold swapE; rw [HL.out]; exact (if_pos ht).trans (if_neg hq)
      have e2 : swapSt st s t = st := by unfold swapSt; rw [HL.out]; exact (if_pos ht).trans ((if_neg hq).trans (if_pos hst))
      rw [e1, e2]
      clear e1 e2
      have hbq : (s.toList == t.toList) = true := by rw [hst]; simp
      clear hst
      go_enter Try.func28, Try.ntmps28
      go_wp2_with (first | (go_at_call 33; (with_reducible refine (find_yes HD.out s r HS.out).mono ?_); rintro e w9 ⟨rfl, hw9⟩; subst w9) | (go_at_call 34; (with_reducible refine (title_calls t htz _).mono ?_); rintro e w9 ⟨rfl, hw9⟩; rw [ht]; have HB := Aside0.mk (drawn_below hw9); clear hw9))
      refine start_ (n := 11) (S := fun w' => w'.cell? ⟨r.F, 1, none⟩ = some (.int .i64 f.l) ∧ w'.cell? ⟨r.F, 0, none⟩ = some (.slice r.A f.b.length r.c)) (ds := []) #[false, false, false, false, false, false, false, false, false, false, false] (by kernel_rfl) rfl rfl ⟨(HF.out.move (w' := w9) (HB.out.block _ (heap_lt HF.out.cells)) (fun k _ hk => HB.out.block k hk)).cell.2.1, (HF.out.move (w' := w9) (HB.out.block _ (heap_lt HF.out.cells)) (fun k _ hk => HB.out.block k hk)).cell.1⟩ (fun hHeld => ?_); refine with_tabW swap.tab6 swap.bits6 (fun HT_ HW_ => ?_)
      refine pure_ (i := 0) (N := some 25) (v := ?_) (a' := ?_) #[true, false, false, false, false, false, false, false, false, false, false] rfl rfl (any_of HT_.out (by kernel_rfl)) (fun _ _ _ h => h) (Or.inl ⟨by rfl, ?_⟩) ?_ ?_
      rotate_left
      · intro w'
        go_simp
        with_reducible rfl
      rotate_left
      · simp only [Act.put, List.setIfInBounds_toArray, List.set_cons_zero, List.set_cons_succ, i64_w, i32_w, xu32_w, xu8_w]
        rfl
      refine pure_ (i := 1) (N := some 26) (v := ?_) (a' := ?_) #[true, true, false, false, false, false, false, false, false, false, false] rfl rfl (any_of HT_.out (by kernel_rfl)) (fun _ _ _ h => h) (Or.inl ⟨by rfl, ?_⟩) ?_ ?_
      rotate_left
      · intro w'
        go_simp
        with_reducible rfl
      rotate_left
      · simp only [Act.put, List.setIfInBounds_toArray, List.set_cons_zero, List.set_cons_succ, i64_w, i32_w, xu32_w, xu8_w]
        rfl
      refine pure_ (i := 2) (N := some 27) (v := ?_) (a' := ?_) #[true, true, true, false, false, false, false, false, false, false, false] rfl rfl (any_of HT_.out (by kernel_rfl)) (fun _ _ _ h => h) (Or.inl ⟨by rfl, ?_⟩) ?_ ?_
      rotate_left
      · intro w'
        go_simp
        with_reducible rfl
      rotate_left
      · simp only [Act.put, List.setIfInBounds_toArray, List.set_cons_zero, List.set_cons_succ, i64_w, i32_w, xu32_w, xu8_w]
        rfl
      refine pure_ (i := 4) (N := some 29) (v := ?_) (a' := ?_) #[true, true, true, false, true, false, false, false, false, false, false] rfl rfl (any_of HT_.out (by kernel_rfl)) (fun _ _ _ h => h) (Or.inl ⟨by rfl, ?_⟩) ?_ ?_
      rotate_left
      · intro w'
        go_simp
        with_reducible rfl
      rotate_left
      · simp only [Act.put, List.setIfInBounds_toArray, List.set_cons_zero, List.set_cons_succ, i64_w, i32_w, xu32_w, xu8_w]
        rfl
      refine pure_ (i := 5) (N := some 30) (v := ?_) (a' := ?_) #[true, true, true, false, true, true, false, false, false, false, false] rfl rfl (any_of HT_.out (by kernel_rfl)) (fun _ _ _ h => h) (Or.inl ⟨by rfl, ?_⟩) ?_ ?_
      rotate_left
      · intro w'
        go_simp
        with_reducible rfl
      rotate_left
      · simp only [Act.put, List.setIfInBounds_toArray, List.set_cons_zero, List.set_cons_succ, i64_w, i32_w, xu32_w, xu8_w]
        rfl
      refine pure_ (i := 6) (N := some 31) (v := ?_) (a' := ?_) #[true, true, true, false, true, true, true, false, false, false, false] rfl rfl (any_of HT_.out (by kernel_rfl)) (fun _ _ _ h => h) (Or.inl ⟨by rfl, ?_⟩) ?_ ?_
      rotate_left
      · intro w'
        go_simp
        with_reducible rfl
      rotate_left
      · simp only [Act.put, List.setIfInBounds_toArray, List.set_cons_zero, List.set_cons_succ, i64_w, i32_w, xu32_w, xu8_w]
        rfl
      refine take_ (i := 3) (N := some 28) (v := ?_) (a' := ?_) #[true, true, true, true, true, true, true, false, false, false, false] rfl rfl (take_ofW HT_.out HW_.out (by kernel_rfl)) (fun _ _ _ h => h) (Or.inl ⟨by rfl, ?_⟩) hHeld ?_ ?_
      rotate_left
      · rintro w' ⟨s0, s1⟩
        go_simp
        with_reducible rfl
      rotate_left
      · simp only [Act.put, List.setIfInBounds_toArray, List.set_cons_zero, List.set_cons_succ, i64_w, i32_w, xu32_w, xu8_w]
        rfl
      refine take_ (i := 7) (N := some 32) (v := ?_) (a' := ?_) #[true, true, true, true, true, true, true, true, false, false, false] rfl rfl (take_ofW HT_.out HW_.out (by kernel_rfl)) (fun _ _ _ h => h) (Or.inl ⟨by rfl, ?_⟩) hHeld ?_ ?_
      rotate_left
      · rintro w' ⟨s0, s1⟩
        go_simp
        with_reducible rfl
      rotate_left
      · simp only [Act.put, List.setIfInBounds_toArray, List.set_cons_zero, List.set_cons_succ, i64_w, i32_w, xu32_w, xu8_w]
        rfl
      refine pure_ (i := 8) (N := some 33) (v := ?_) (a' := ?_) #[true, true, true, true, true, true, true, true, true, false, false] rfl rfl (any_of HT_.out (by kernel_rfl)) (fun _ _ _ h => h) (Or.inl ⟨by rfl, ?_⟩) ?_ ?_
      rotate_left
      · intro w'
        go_simp
        with_reducible rfl
      rotate_left
      · simp only [Act.put, List.setIfInBounds_toArray, List.set_cons_zero, List.set_cons_succ, i64_w, i32_w, xu32_w, xu8_w]
        rfl
      refine pure_ (i := 9) (N := some 34) (v := ?_) (a' := ?_) #[true, true, true, true, true, true, true, true, true, true, false] rfl rfl (any_of HT_.out (by kernel_rfl)) (fun _ _ _ h => h) (Or.inl ⟨by rfl, ?_⟩) ?_ ?_
      rotate_left
      · intro w'
        go_simp
        with_reducible rfl
      rotate_left
      · simp only [Act.put, List.setIfInBounds_toArray, List.set_cons_zero, List.set_cons_succ, i64_w, i32_w, xu32_w, xu8_w]
        rfl
      refine pure_ (i := 10) (N := some 24) (v := ?_) (a' := ?_) #[true, true, true, true, true, true, true, true, true, true, true] rfl rfl (any_of HT_.out (by kernel_rfl)) (fun _ _ _ h => h) (Or.inl ⟨by rfl, ?_⟩) ?_ ?_
      rotate_left
      · intro w'
        go_simp
        with_reducible rfl
      rotate_left
      · simp only [Act.put, List.setIfInBounds_toArray, List.set_cons_zero, List.set_cons_succ, i64_w, i32_w, xu32_w, xu8_w]
        rfl
      refine done_ (done_of HT_.out (by kernel_rfl)) ?_
      clear hHeld HT_ HW_
      go_wp2_with (fail)
      go_ret
      exact ⟨rfl, left_same HD.out (below_drew1 HB.out)⟩
    case neg =>
    have e1 : swapE st s t = 0 := by unfold swapE; rw [HL.out]; exact (if_pos ht).trans (if_neg hq)
    have e2 : swapSt st s t = swapS st s t f := by unfold swapSt; rw [HL.out]; exact (if_pos ht).trans ((if_neg hq).trans (if_neg hst))
    rw [e1, e2]
    clear e1 e2
    have hbq : (s.toList == t.toList) = false := by rw [beq_eq_false_iff_ne]; exact fun e => hst (str_inj e)
    have htt := swap_total HD.out.files.sorted HL.out hst
    have hfit := HD.out.fit
    have hr1 := HD.out.room1
    have HT := Aside0.mk (And.intro htt (And.intro hfit hr1))
    clear htt hfit hr1
    rcases HD.out.files.at_ t with ⟨k1, k2⟩ | ⟨q, g, k1, k2, kf⟩
    · have HK := Aside0.mk (And.intro k1 k2)
      clear k1 k2
      go_enter Try.func28, Try.ntmps28
      go_wp2_with (first | (go_at_call 33; (with_reducible refine (find_yes HD.out s r HS.out).mono ?_); rintro e w9 ⟨rfl, hw9⟩; subst w9) | (go_at_call 34; (with_reducible refine (title_calls t htz _).mono ?_); rintro e w9 ⟨rfl, hw9⟩; rw [ht]; have HB := Aside0.mk (drawn_below hw9); clear hw9))
      refine start_ (n := 11) (S := fun w' => w'.cell? ⟨r.F, 1, none⟩ = some (.int .i64 f.l) ∧ w'.cell? ⟨r.F, 0, none⟩ = some (.slice r.A f.b.length r.c)) (ds := []) #[false, false, false, false, false, false, false, false, false, false, false] (by kernel_rfl) rfl rfl ⟨(HF.out.move (w' := w9) (HB.out.block _ (heap_lt HF.out.cells)) (fun k _ hk => HB.out.block k hk)).cell.2.1, (HF.out.move (w' := w9) (HB.out.block _ (heap_lt HF.out.cells)) (fun k _ hk => HB.out.block k hk)).cell.1⟩ (fun hHeld => ?_); refine with_tabW swap.tab6 swap.bits6 (fun HT_ HW_ => ?_)
      refine pure_ (i := 0) (N := some 25) (v := ?_) (a' := ?_) #[true, false, false, false, false, false, false, false, false, false, false] rfl rfl (any_of HT_.out (by kernel_rfl)) (fun _ _ _ h => h) (Or.inl ⟨by rfl, ?_⟩) ?_ ?_
      rotate_left
      · intro w'
        go_simp
        with_reducible rfl
      rotate_left
      · simp only [Act.put, List.setIfInBounds_toArray, List.set_cons_zero, List.set_cons_succ, i64_w, i32_w, xu32_w, xu8_w]
        rfl
      refine pure_ (i := 1) (N := some 26) (v := ?_) (a' := ?_) #[true, true, false, false, false, false, false, false, false, false, false] rfl rfl (any_of HT_.out (by kernel_rfl)) (fun _ _ _ h => h) (Or.inl ⟨by rfl, ?_⟩) ?_ ?_
      rotate_left
      · intro w'
        go_simp
        with_reducible rfl
      rotate_left
      · simp only [Act.put, List.setIfInBounds_toArray, List.set_cons_zero, List.set_cons_succ, i64_w, i32_w, xu32_w, xu8_w]
        rfl
      refine pure_ (i := 2) (N := some 27) (v := ?_) (a' := ?_) #[true, true, true, false, false, false, false, false, false, false, false] rfl rfl (any_of HT_.out (by kernel_rfl)) (fun _ _ _ h => h) (Or.inl ⟨by rfl, ?_⟩) ?_ ?_
      rotate_left
      · intro w'
        go_simp
        with_reducible rfl
      rotate_left
      · simp only [Act.put, List.setIfInBounds_toArray, List.set_cons_zero, List.set_cons_succ, i64_w, i32_w, xu32_w, xu8_w]
        rfl
      refine pure_ (i := 4) (N := some 29) (v := ?_) (a' := ?_) #[true, true, true, false, true, false, false, false, false, false, false] rfl rfl (any_of HT_.out (by kernel_rfl)) (fun _ _ _ h => h) (Or.inl ⟨by rfl, ?_⟩) ?_ ?_
      rotate_left
      · intro w'
        go_simp
        with_reducible rfl
      rotate_left
      · simp only [Act.put, List.setIfInBounds_toArray, List.set_cons_zero, List.set_cons_succ, i64_w, i32_w, xu32_w, xu8_w]
        rfl
      refine pure_ (i := 5) (N := some 30) (v := ?_) (a' := ?_) #[true, true, true, false, true, true, false, false, false, false, false] rfl rfl (any_of HT_.out (by kernel_rfl)) (fun _ _ _ h => h) (Or.inl ⟨by rfl, ?_⟩) ?_ ?_
      rotate_left
      · intro w'
        go_simp
        with_reducible rfl
      rotate_left
      · simp only [Act.put, List.setIfInBounds_toArray, List.set_cons_zero, List.set_cons_succ, i64_w, i32_w, xu32_w, xu8_w]
        rfl
      refine pure_ (i := 6) (N := some 31) (v := ?_) (a' := ?_) #[true, true, true, false, true, true, true, false, false, false, false] rfl rfl (any_of HT_.out (by kernel_rfl)) (fun _ _ _ h => h) (Or.inl ⟨by rfl, ?_⟩) ?_ ?_
      rotate_left
      · intro w'
        go_simp
        with_reducible rfl
      rotate_left
      · simp only [Act.put, List.setIfInBounds_toArray, List.set_cons_zero, List.set_cons_succ, i64_w, i32_w, xu32_w, xu8_w]
        rfl
      refine take_ (i := 3) (N := some 28) (v := ?_) (a' := ?_) #[true, true, true, true, true, true, true, false, false, false, false] rfl rfl (take_ofW HT_.out HW_.out (by kernel_rfl)) (fun _ _ _ h => h) (Or.inl ⟨by rfl, ?_⟩) hHeld ?_ ?_
      rotate_left
      · rintro w' ⟨s0, s1⟩
        go_simp
        with_reducible rfl
      rotate_left
      · simp only [Act.put, List.setIfInBounds_toArray, List.set_cons_zero, List.set_cons_succ, i64_w, i32_w, xu32_w, xu8_w]
        rfl
      refine take_ (i := 7) (N := some 32) (v := ?_) (a' := ?_) #[true, true, true, true, true, true, true, true, false, false, false] rfl rfl (take_ofW HT_.out HW_.out (by kernel_rfl)) (fun _ _ _ h => h) (Or.inl ⟨by rfl, ?_⟩) hHeld ?_ ?_
      rotate_left
      · rintro w' ⟨s0, s1⟩
        go_simp
        with_reducible rfl
      rotate_left
      · simp only [Act.put, List.setIfInBounds_toArray, List.set_cons_zero, List.set_cons_succ, i64_w, i32_w, xu32_w, xu8_w]
        rfl
      refine pure_ (i := 8) (N := some 33) (v := ?_) (a' := ?_) #[true, true, true, true, true, true, true, true, true, false, false] rfl rfl (any_of HT_.out (by kernel_rfl)) (fun _ _ _ h => h) (Or.inl ⟨by rfl, ?_⟩) ?_ ?_
      rotate_left
      · intro w'
        go_simp
        with_reducible rfl
      rotate_left
      · simp only [Act.put, List.setIfInBounds_toArray, List.set_cons_zero, List.set_cons_succ, i64_w, i32_w, xu32_w, xu8_w]
        rfl
      refine pure_ (i := 9) (N := some 34) (v := ?_) (a' := ?_) #[true, true, true, true, true, true, true, true, true, true, false] rfl rfl (any_of HT_.out (by kernel_rfl)) (fun _ _ _ h => h) (Or.inl ⟨by rfl, ?_⟩) ?_ ?_
      rotate_left
      · intro w'
        go_simp
        with_reducible rfl
      rotate_left
      · simp only [Act.put, List.setIfInBounds_toArray, List.set_cons_zero, List.set_cons_succ, i64_w, i32_w, xu32_w, xu8_w]
        rfl
      refine pure_ (i := 10) (N := some 24) (v := ?_) (a' := ?_) #[true, true, true, true, true, true, true, true, true, true, true] rfl rfl (any_of HT_.out (by kernel_rfl)) (fun _ _ _ h => h) (Or.inl ⟨by rfl, ?_⟩) ?_ ?_
      rotate_left
      · intro w'
        go_simp
        with_reducible rfl
      rotate_left
      · simp only [Act.put, List.setIfInBounds_toArray, List.set_cons_zero, List.set_cons_succ, i64_w, i32_w, xu32_w, xu8_w]
        rfl
      refine done_ (done_of HT_.out (by kernel_rfl)) ?_
      clear hHeld HT_ HW_
      have HD9 := Aside0.mk (HD.out.below HB.out)
      have hc0 := HD9.out.cell.1
      have hlk : (Instr.lookup 55 (.map (some M)) (.string t) false).run Try.prog w9.drew = .ok (.pointer none) w9.drew := by
        have := FilesG.look (w := w9.drew) (HD9.out.files.move (Nat.le_refl _) rfl (fun _ _ _ => rfl) (fun _ _ => rfl)) t
        rw [HK.out.1] at this
        exact this
      have hMM : MapF w9.drew M (fun u => (fs u).map (fun r => .pointer (some ⟨r.F, 0, none⟩))) := HD9.out.files.map.move rfl
      obtain ⟨w2, hup, hM2, p1, p2, p3, p4, p5⟩ := MapF.put (P := Try.prog) Try.underlying55 Try.underlying9 hMM t (.pointer (some ⟨r.F, 0, none⟩))
      obtain ⟨w3, hdl, hM3, q1, q2, q3, q4, q5⟩ := MapF.drop (P := Try.prog) (ty := 0) Try.underlying55 Try.underlying9 hM2 s
      have hDM := HD.out.DM
      have hc2 : w2.cell? ⟨D, 0, none⟩ = some (.map (some M)) := (World.cell?_of_block (p5 D hDM)).trans hc0
      have HQ := Aside0.mk (And.intro (q1.trans (p1.trans rfl : w2.os = w9.os)) (And.intro (q2.trans (p2.trans rfl : w2.tape = w9.tape)) (And.intro (q3.trans (p3.trans rfl : w2.output = w9.output)) (And.intro (q4.trans (p4.trans rfl : w2.heap.size = w9.heap.size)) (fun k (hk : k ≠ M) => (q5 k hk).trans ((p5 k hk).trans rfl : w2.heap[k]? = w9.heap[k]?))))))
      have HM := Aside0.mk hM3
      clear q1 q2 q3 q4 q5 p1 p2 p3 p4 p5 hM2 hM3 hMM
      go_wp2_with (fail)
      go_ret
      obtain ⟨q1, q2, q3, q4, q5⟩ := HQ.out
      refine ⟨rfl, Left.pre HB.out (left_move HD9.out HS.out HL.out hst (title_size ht) ?_ ?_ ⟨q1, q2, q3, by omega, fun k hk hn => q5 k (fun e => hn (.inr e))⟩)⟩
      · have e3 := HT.out.1.1
        rw [HK.out.2] at e3
        dsimp only at e3
        rw [q5 D hDM, show total (swapS st s t f) = total st by omega]
        exact HD9.out.cells
      · exact HM.out
    · have HK := Aside0.mk (And.intro k1 k2)
      have hg0 := kf.cell.1
      clear k1 k2
      go_enter Try.func28, Try.ntmps28
      go_wp2_with (first | (go_at_call 33; (with_reducible refine (find_yes HD.out s r HS.out).mono ?_); rintro e w9 ⟨rfl, hw9⟩; subst w9) | (go_at_call 34; (with_reducible refine (title_calls t htz _).mono ?_); rintro e w9 ⟨rfl, hw9⟩; rw [ht]; have HB := Aside0.mk (drawn_below hw9); clear hw9))
      refine start_ (n := 11) (S := fun w' => w'.cell? ⟨r.F, 1, none⟩ = some (.int .i64 f.l) ∧ w'.cell? ⟨r.F, 0, none⟩ = some (.slice r.A f.b.length r.c)) (ds := []) #[false, false, false, false, false, false, false, false, false, false, false] (by kernel_rfl) rfl rfl ⟨(HF.out.move (w' := w9) (HB.out.block _ (heap_lt HF.out.cells)) (fun k _ hk => HB.out.block k hk)).cell.2.1, (HF.out.move (w' := w9) (HB.out.block _ (heap_lt HF.out.cells)) (fun k _ hk => HB.out.block k hk)).cell.1⟩ (fun hHeld => ?_); refine with_tabW swap.tab6 swap.bits6 (fun HT_ HW_ => ?_)
      refine pure_ (i := 0) (N := some 25) (v := ?_) (a' := ?_) #[true, false, false, false, false, false, false, false, false, false, false] rfl rfl (any_of HT_.out (by kernel_rfl)) (fun _ _ _ h => h) (Or.inl ⟨by rfl, ?_⟩) ?_ ?_
      rotate_left
      · intro w'
        go_simp
        with_reducible rfl
      rotate_left
      · simp only [Act.put, List.setIfInBounds_toArray, List.set_cons_zero, List.set_cons_succ, i64_w, i32_w, xu32_w, xu8_w]
        rfl
      refine pure_ (i := 1) (N := some 26) (v := ?_) (a' := ?_) #[true, true, false, false, false, false, false, false, false, false, false] rfl rfl (any_of HT_.out (by kernel_rfl)) (fun _ _ _ h => h) (Or.inl ⟨by rfl, ?_⟩) ?_ ?_
      rotate_left
      · intro w'
        go_simp
        with_reducible rfl
      rotate_left
      · simp only [Act.put, List.setIfInBounds_toArray, List.set_cons_zero, List.set_cons_succ, i64_w, i32_w, xu32_w, xu8_w]
        rfl
      refine pure_ (i := 2) (N := some 27) (v := ?_) (a' := ?_) #[true, true, true, false, false, false, false, false, false, false, false] rfl rfl (any_of HT_.out (by kernel_rfl)) (fun _ _ _ h => h) (Or.inl ⟨by rfl, ?_⟩) ?_ ?_
      rotate_left
      · intro w'
        go_simp
        with_reducible rfl
      rotate_left
      · simp only [Act.put, List.setIfInBounds_toArray, List.set_cons_zero, List.set_cons_succ, i64_w, i32_w, xu32_w, xu8_w]
        rfl
      refine pure_ (i := 4) (N := some 29) (v := ?_) (a' := ?_) #[true, true, true, false, true, false, false, false, false, false, false] rfl rfl (any_of HT_.out (by kernel_rfl)) (fun _ _ _ h => h) (Or.inl ⟨by rfl, ?_⟩) ?_ ?_
      rotate_left
      · intro w'
        go_simp
        with_reducible rfl
      rotate_left
      · simp only [Act.put, List.setIfInBounds_toArray, List.set_cons_zero, List.set_cons_succ, i64_w, i32_w, xu32_w, xu8_w]
        rfl
      refine pure_ (i := 5) (N := some 30) (v := ?_) (a' := ?_) #[true, true, true, false, true, true, false, false, false, false, false] rfl rfl (any_of HT_.out (by kernel_rfl)) (fun _ _ _ h => h) (Or.inl ⟨by rfl, ?_⟩) ?_ ?_
      rotate_left
      · intro w'
        go_simp
        with_reducible rfl
      rotate_left
      · simp only [Act.put, List.setIfInBounds_toArray, List.set_cons_zero, List.set_cons_succ, i64_w, i32_w, xu32_w, xu8_w]
        rfl
      refine pure_ (i := 6) (N := some 31) (v := ?_) (a' := ?_) #[true, true, true, false, true, true, true, false, false, false, false] rfl rfl (any_of HT_.out (by kernel_rfl)) (fun _ _ _ h => h) (Or.inl ⟨by rfl, ?_⟩) ?_ ?_
      rotate_left
      · intro w'
        go_simp
        with_reducible rfl
      rotate_left
      · simp only [Act.put, List.setIfInBounds_toArray, List.set_cons_zero, List.set_cons_succ, i64_w, i32_w, xu32_w, xu8_w]
        rfl
      refine take_ (i := 3) (N := some 28) (v := ?_) (a' := ?_) #[true, true, true, true, true, true, true, false, false, false, false] rfl rfl (take_ofW HT_.out HW_.out (by kernel_rfl)) (fun _ _ _ h => h) (Or.inl ⟨by rfl, ?_⟩) hHeld ?_ ?_
      rotate_left
      · rintro w' ⟨s0, s1⟩
        go_simp
        with_reducible rfl
      rotate_left
      · simp only [Act.put, List.setIfInBounds_toArray, List.set_cons_zero, List.set_cons_succ, i64_w, i32_w, xu32_w, xu8_w]
        rfl
      refine take_ (i := 7) (N := some 32) (v := ?_) (a' := ?_) #[true, true, true, true, true, true, true, true, false, false, false] rfl rfl (take_ofW HT_.out HW_.out (by kernel_rfl)) (fun _ _ _ h => h) (Or.inl ⟨by rfl, ?_⟩) hHeld ?_ ?_
      rotate_left
      · rintro w' ⟨s0, s1⟩
        go_simp
        with_reducible rfl
      rotate_left
      · simp only [Act.put, List.setIfInBounds_toArray, List.set_cons_zero, List.set_cons_succ, i64_w, i32_w, xu32_w, xu8_w]
        rfl
      refine pure_ (i := 8) (N := some 33) (v := ?_) (a' := ?_) #[true, true, true, true, true, true, true, true, true, false, false] rfl rfl (any_of HT_.out (by kernel_rfl)) (fun _ _ _ h => h) (Or.inl ⟨by rfl, ?_⟩) ?_ ?_
      rotate_left
      · intro w'
        go_simp
        with_reducible rfl
      rotate_left
      · simp only [Act.put, List.setIfInBounds_toArray, List.set_cons_zero, List.set_cons_succ, i64_w, i32_w, xu32_w, xu8_w]
        rfl
      refine pure_ (i := 9) (N := some 34) (v := ?_) (a' := ?_) #[true, true, true, true, true, true, true, true, true, true, false] rfl rfl (any_of HT_.out (by kernel_rfl)) (fun _ _ _ h => h) (Or.inl ⟨by rfl, ?_⟩) ?_ ?_
      rotate_left
      · intro w'
        go_simp
        with_reducible rfl
      rotate_left
      · simp only [Act.put, List.setIfInBounds_toArray, List.set_cons_zero, List.set_cons_succ, i64_w, i32_w, xu32_w, xu8_w]
        rfl
      refine pure_ (i := 10) (N := some 24) (v := ?_) (a' := ?_) #[true, true, true, true, true, true, true, true, true, true, true] rfl rfl (any_of HT_.out (by kernel_rfl)) (fun _ _ _ h => h) (Or.inl ⟨by rfl, ?_⟩) ?_ ?_
      rotate_left
      · intro w'
        go_simp
        with_reducible rfl
      rotate_left
      · simp only [Act.put, List.setIfInBounds_toArray, List.set_cons_zero, List.set_cons_succ, i64_w, i32_w, xu32_w, xu8_w]
        rfl
      refine done_ (done_of HT_.out (by kernel_rfl)) ?_
      clear hHeld HT_ HW_
      have HD9 := Aside0.mk (HD.out.below HB.out)
      have hc0 := HD9.out.cell.1
      have hc2 := HD9.out.cell.2.2.1
      have hg9 := (HB.out.cell (World.block_lt_of_cell? w _ hg0)).trans hg0
      have hlk : (Instr.lookup 55 (.map (some M)) (.string t) false).run Try.prog w9.drew = .ok (.pointer (some ⟨q.F, 0, none⟩)) w9.drew := by
        have := FilesG.look (w := w9.drew) (HD9.out.files.move (Nat.le_refl _) rfl (fun _ _ _ => rfl) (fun _ _ => rfl)) t
        rw [HK.out.1] at this
        exact this
      go_wp2_with (fail)
      refine start_ (n := 13) (S := fun w' => w'.cell? ⟨D, 2, none⟩ = some (.int .i64 (total st)) ∧ w'.cell? ⟨q.F, 0, none⟩ = some (.slice q.A g.b.length q.c)) (ds := [12]) #[false, false, false, false, false, false, false, false, false, false, false, false, false] (by kernel_rfl) rfl rfl ⟨hc2, hg9⟩ (fun hHeld => ?_); refine with_tabW swap.tab12 swap.bits12 (fun HT_ HW_ => ?_)
      refine pure_ (i := 0) (N := some 47) (v := ?_) (a' := ?_) #[true, false, false, false, false, false, false, false, false, false, false, false, false] rfl rfl (any_of HT_.out (by kernel_rfl)) (fun _ _ _ h => h) (Or.inl ⟨by rfl, ?_⟩) ?_ ?_
      rotate_left
      · intro w'
        go_simp
        with_reducible rfl
      rotate_left
      · simp only [Act.put, List.setIfInBounds_toArray, List.set_cons_zero, List.set_cons_succ, i64_w, i32_w, xu32_w, xu8_w]
        rfl
      refine pure_ (i := 1) (N := some 48) (v := ?_) (a' := ?_) #[true, true, false, false, false, false, false, false, false, false, false, false, false] rfl rfl (any_of HT_.out (by kernel_rfl)) (fun _ _ _ h => h) (Or.inl ⟨by rfl, ?_⟩) ?_ ?_
      rotate_left
      · intro w'
        go_simp
        with_reducible rfl
      rotate_left
      · simp only [Act.put, List.setIfInBounds_toArray, List.set_cons_zero, List.set_cons_succ, i64_w, i32_w, xu32_w, xu8_w]
        rfl
      refine pure_ (i := 2) (N := some 49) (v := ?_) (a' := ?_) #[true, true, true, false, false, false, false, false, false, false, false, false, false] rfl rfl (any_of HT_.out (by kernel_rfl)) (fun _ _ _ h => h) (Or.inl ⟨by rfl, ?_⟩) ?_ ?_
      rotate_left
      · intro w'
        go_simp
        with_reducible rfl
      rotate_left
      · simp only [Act.put, List.setIfInBounds_toArray, List.set_cons_zero, List.set_cons_succ, i64_w, i32_w, xu32_w, xu8_w]
        rfl
      refine pure_ (i := 4) (N := some 51) (v := ?_) (a' := ?_) #[true, true, true, false, true, false, false, false, false, false, false, false, false] rfl rfl (any_of HT_.out (by kernel_rfl)) (fun _ _ _ h => h) (Or.inl ⟨by rfl, ?_⟩) ?_ ?_
      rotate_left
      · intro w'
        go_simp
        with_reducible rfl
      rotate_left
      · simp only [Act.put, List.setIfInBounds_toArray, List.set_cons_zero, List.set_cons_succ, i64_w, i32_w, xu32_w, xu8_w]
        rfl
      refine pure_ (i := 5) (N := some 52) (v := ?_) (a' := ?_) #[true, true, true, false, true, true, false, false, false, false, false, false, false] rfl rfl (any_of HT_.out (by kernel_rfl)) (fun _ _ _ h => h) (Or.inl ⟨by rfl, ?_⟩) ?_ ?_
      rotate_left
      · intro w'
        go_simp
        with_reducible rfl
      rotate_left
      · simp only [Act.put, List.setIfInBounds_toArray, List.set_cons_zero, List.set_cons_succ, i64_w, i32_w, xu32_w, xu8_w]
        rfl
      refine pure_ (i := 6) (N := some 53) (v := ?_) (a' := ?_) #[true, true, true, false, true, true, true, false, false, false, false, false, false] rfl rfl (any_of HT_.out (by kernel_rfl)) (fun _ _ _ h => h) (Or.inl ⟨by rfl, ?_⟩) ?_ ?_
      rotate_left
      · intro w'
        go_simp
        with_reducible rfl
      rotate_left
      · simp only [Act.put, List.setIfInBounds_toArray, List.set_cons_zero, List.set_cons_succ, i64_w, i32_w, xu32_w, xu8_w]
        rfl
      refine take_ (i := 3) (N := some 50) (v := ?_) (a' := ?_) #[true, true, true, true, true, true, true, false, false, false, false, false, false] rfl rfl (take_ofW HT_.out HW_.out (by kernel_rfl)) (fun _ _ _ h => h) (Or.inl ⟨by rfl, ?_⟩) hHeld ?_ ?_
      rotate_left
      · rintro w' ⟨s0, s1⟩
        go_simp
        with_reducible rfl
      rotate_left
      · simp only [Act.put, List.setIfInBounds_toArray, List.set_cons_zero, List.set_cons_succ, i64_w, i32_w, xu32_w, xu8_w]
        rfl
      refine take_ (i := 7) (N := some 54) (v := ?_) (a' := ?_) #[true, true, true, true, true, true, true, true, false, false, false, false, false] rfl rfl (take_ofW HT_.out HW_.out (by kernel_rfl)) (fun _ _ _ h => h) (Or.inl ⟨by rfl, ?_⟩) hHeld ?_ ?_
      rotate_left
      · rintro w' ⟨s0, s1⟩
        go_simp
        with_reducible rfl
      rotate_left
      · simp only [Act.put, List.setIfInBounds_toArray, List.set_cons_zero, List.set_cons_succ, i64_w, i32_w, xu32_w, xu8_w]
        rfl
      refine pure_ (i := 8) (N := some 55) (v := ?_) (a' := ?_) #[true, true, true, true, true, true, true, true, true, false, false, false, false] rfl rfl (any_of HT_.out (by kernel_rfl)) (fun _ _ _ h => h) (Or.inl ⟨by rfl, ?_⟩) ?_ ?_
      rotate_left
      · intro w'
        go_simp
        with_reducible rfl
      rotate_left
      · simp only [Act.put, List.setIfInBounds_toArray, List.set_cons_zero, List.set_cons_succ, i64_w, i32_w, xu32_w, xu8_w]
        rfl
      refine pure_ (i := 9) (N := some 56) (v := ?_) (a' := ?_) #[true, true, true, true, true, true, true, true, true, true, false, false, false] rfl rfl (any_of HT_.out (by kernel_rfl)) (fun _ _ _ h => h) (Or.inl ⟨by rfl, ?_⟩) ?_ ?_
      rotate_left
      · intro w'
        go_simp
        with_reducible rfl
      rotate_left
      · simp only [Act.put, List.setIfInBounds_toArray, List.set_cons_zero, List.set_cons_succ, i64_w, i32_w, xu32_w, xu8_w]
        rfl
      refine pure_ (i := 10) (N := some 57) (v := ?_) (a' := ?_) #[true, true, true, true, true, true, true, true, true, true, true, false, false] rfl rfl (any_of HT_.out (by kernel_rfl)) (fun _ _ _ h => h) (Or.inl ⟨by rfl, ?_⟩) ?_ ?_
      rotate_left
      · intro w'
        go_simp
        with_reducible rfl
      rotate_left
      · simp only [Act.put, List.setIfInBounds_toArray, List.set_cons_zero, List.set_cons_succ, i64_w, i32_w, xu32_w, xu8_w]
        rfl
      refine pure_ (i := 11) (N := some 58) (v := ?_) (a' := ?_) #[true, true, true, true, true, true, true, true, true, true, true, true, false] rfl rfl (any_of HT_.out (by kernel_rfl)) (fun _ _ _ h => h) (Or.inl ⟨by rfl, ?_⟩) ?_ ?_
      rotate_left
      · intro w'
        go_simp
        with_reducible rfl
      rotate_left
      · simp only [Act.put, List.setIfInBounds_toArray, List.set_cons_zero, List.set_cons_succ, i64_w, i32_w, xu32_w, xu8_w]
        rfl
      refine last_ (i := 12) (N := none) #[true, true, true, true, true, true, true, true, true, true, true, true, true] rfl rfl (one_of HT_.out (by kernel_rfl)) (by decide) (fun K hK => ?_)
      have hfB := HD9.out.cell.2.2.2
      refine skip_ (w1 := w9.drew.drew.setCell ⟨D, 2, none⟩ (.int .i64 _)) (by rfl) rfl (by first | (go_simp; done) | (go_simp; rfl)) ?_
      refine hK.out _ _ ?_
      clear hK K hfB
      refine done_ (done_of HT_.out (by kernel_rfl)) ?_
      clear hHeld HT_ HW_
      have e3 := HT.out.1.1
      rw [HK.out.2] at e3
      dsimp only at e3
      obtain ⟨_, hfit, hr1⟩ := HT.out
      have hv : wrap64 ((total st : Int) - (g.b.length : Int)) = (total (swapS st s t f) : Int) := by
        rw [wrap_id (by omega) (by omega)]; omega
      rw [hv]
      have hDM := HD.out.DM
      have hMM : MapF ((w9.setCell ⟨D, 2, none⟩ (.int .i64 (total (swapS st s t f) : Int))).drew.drew) M (fun u => (fs u).map (fun r => .pointer (some ⟨r.F, 0, none⟩))) := HD9.out.files.map.move (Below.heap_setCell _ _ _ M (fun e => hDM e.symm))
      obtain ⟨w2, hup, hM2, p1, p2, p3, p4, p5⟩ := MapF.put (P := Try.prog) Try.underlying55 Try.underlying9 hMM t (.pointer (some ⟨r.F, 0, none⟩))
      obtain ⟨w3, hdl, hM3, q1, q2, q3, q4, q5⟩ := MapF.drop (P := Try.prog) (ty := 0) Try.underlying55 Try.underlying9 hM2 s
      have hD1 := blk_put HD9.out.cells 2 (.int .i64 (total (swapS st s t f) : Int)) rfl
      have hc3 : w2.cell? ⟨D, 0, none⟩ = some (.map (some M)) := (World.cell?_of_block (p5 D hDM)).trans ((blk_cell hD1 0).trans rfl)
      have HQ := Aside0.mk (And.intro (q1.trans (p1.trans rfl : w2.os = w9.os)) (And.intro (q2.trans (p2.trans rfl : w2.tape = w9.tape)) (And.intro (q3.trans (p3.trans rfl : w2.output = w9.output)) (And.intro (q4.trans (p4.trans (by simp [World.drew]) : w2.heap.size = w9.heap.size)) (fun k (hk : k ≠ M) => (q5 k hk).trans ((p5 k hk).trans rfl : w2.heap[k]? = (w9.setCell ⟨D, 2, none⟩ (.int .i64 (total (swapS st s t f) : Int))).heap[k]?))))))
      have HM := Aside0.mk hM3
      have H1 := Aside0.mk hD1
      clear q1 q2 q3 q4 q5 p1 p2 p3 p4 p5 hM2 hM3 hMM hD1 hv hfit hr1 e3
      go_wp2_with (fail)
      go_ret
      obtain ⟨q1, q2, q3, q4, q5⟩ := HQ.out
      refine ⟨rfl, Left.pre HB.out (left_move HD9.out HS.out HL.out hst (title_size ht) ((q5 D hDM).trans H1.out) HM.out ⟨q1, q2, q3, by omega, fun k hk hn => (q5 k (fun e => hn (.inr e))).trans (Below.heap_setCell _ _ _ k (fun e => hn (.inl e)))⟩)⟩
end
end Go.Proofs.Ytkdbojaoaldmbaa.G
