/- The network by hand: Double. -/
import Derived.Test.YtlnipfmgdkiboaaN5
namespace Go.Proofs.Ytlnipfmgdkiboaa.N
open Go.RowKit Go.Proofs.Ytlnipfmgdkiboaa.Q Go.Proofs.YtlnipfmgdkiboaaW.PrintWords Go.Proofs.YtlnipfmgdkiboaaW.PrintLast Go.Proofs.YtlnipfmgdkiboaaW.PrintMore
set_option linter.unusedVariables false
set_option linter.unusedSimpArgs false
def double.T6 : Bool × List (List Nat × List Nat) := (true, [([], []), ([0], [0]), ([1], [1]), ([2], [2]), ([], []), ([], []), ([5], [5]), ([6], [6]), ([7], [7]), ([], []), ([8, 9], [8, 9]), ([], []), ([11], [11]), ([12], [12]), ([10, 13, 12], [10, 13]), ([3, 4, 14, 14, 0, 1, 2, 3, 4, 5, 6, 7, 8, 9, 10, 11, 12, 13, 14], [3, 4, 14])])
def double.B6 : List Nat := [0, 1, 3, 7, 0, 0, 32, 96, 224, 0, 992, 0, 2048, 6144, 16352, 32767]
theorem double.tab6 : rtab .any (opsOf Try.f13 6) = double.T6 := by kernel_rfl
theorem double.bits6 : waitsOk double.T6.2 double.B6 = true := by kernel_rfl
section
variable {w : World} {N M : Nat} {room : Int} {B : Nat} {own : Nat → Option ByteArray} {G : ByteArray → Option Value} {Q : ByteArray → List S34}
/-- What is left when a tenant's letters have been turned. -/
def Done (w : World) (N M : Nat) (room : Int) (B : Nat) (own : Nat → Option ByteArray) (s : ByteArray) (Q' : ByteArray → List S34) (v : Value) (e : Ending) (w' : World) : Prop :=
  ∃ own' G', e = .returned v ∧ NetG w' N M room B own' G' Q' ∧ Chg (fun k => k = M ∨ own k = some s) w w' ∧ ∀ k, k < w.heap.size → own' k = own k
theorem find_in' (h : NetG w N M room B own G Q) (s : ByteArray) (i : Int) (h0 : 0 ≤ i) (h1 : i < (Q s).length) (x : S34) (hx : (Q s).getD i.toNat z34 = x) :
    Calls Try.prog 28 #[.pointer (some ⟨N, 0, none⟩), .string s, .int .i64 i] w fun e w' => ∃ A1 c1, e = .returned (.tuple #[.agg #[.int .i64 x.f0, .slice A1 x.f1.length c1], .int .i64 0]) ∧ k34.M w B (fun k => own k = some s) x [.int .i64 x.f0, .slice A1 x.f1.length c1] ∧ Below w.heap.size w w' := by
  subst hx
  exact find_in h s i h0 h1
set_option maxHeartbeats 1000000 in
set_option maxRecDepth 100000 in
theorem double_out (h : NetG w N M room B own G Q) (s : ByteArray) (i : Int) (hi : ¬(0 ≤ i ∧ i < (Q s).length)) :
    Calls Try.prog 13 #[.pointer (some ⟨N, 0, none⟩), .string s, .int .i64 i] w fun e w' => e = .returned (.int .i64 4) ∧ Below w.heap.size w w' := by
  have HI := Aside0.mk hi
  clear hi
  go_enter Try.func13, Try.ntmps13
  go_wp2_with (go_at_call 28; (with_reducible refine (find_out h s i HI.out).mono ?_); rintro e w1 ⟨rfl, hb⟩; have HB := Aside0.mk hb; clear hb)
  go_ret
  exact ⟨rfl, below_alloc HB.out _⟩
set_option maxHeartbeats 1000000 in
set_option maxRecDepth 100000 in
theorem double_full (h : NetG w N M room B own G Q) (s : ByteArray) (i : Int) (h0 : 0 ≤ i) (h1 : i < (Q s).length) (hf : ((Q s).length : Int) = room) :
    Calls Try.prog 13 #[.pointer (some ⟨N, 0, none⟩), .string s, .int .i64 i] w fun e w' => e = .returned (.int .i64 5) ∧ Below w.heap.size w w' := by
  have HI0 := Aside0.mk h0
  have HI1 := Aside0.mk h1
  have HH := Aside0.mk h
  clear h0 h1
  have HF := Aside0.mk hf
  clear hf
  clear h
  go_enter Try.func13, Try.ntmps13
  go_wp2_with (go_at_call 28; (with_reducible refine (find_in HH.out s i HI0.out HI1.out).mono ?_); rintro e w1 ⟨A1, c1, rfl, hM, hb⟩; have HB := Aside0.mk hb; have hN := HH.out.below hb; clear hb; have HM := Aside0.mk hM; clear hM; generalize (Q s).getD i.toNat z34 = x at *)
  obtain ⟨Aw, cw, hvw, hcw, _⟩ := Kd.R_reads (hN.rows s)
  have hlk := fun o nd => (hN.below (pw_below_drewN (below_alloc (Below.refl _ _) o) nd)).look s
  rw [hvw] at hlk
  have d0 := fun o => Go.Lib.cell?_alloc_some (W := w1) o hN.cell.1
  have d1 := fun o => Go.Lib.cell?_alloc_some (W := w1) o hN.cell.2
  have hge : (room : Int) ≤ ((Q s).length : Int) := by have := HF.out; omega
  have hlk0 := fun o => hlk o 0
  clear hN hvw hcw
  go_quiet (fail)
  go_wp2_with (fail)
  go_ret
  exact ⟨rfl, pw_below_drewN (below_alloc HB.out _) _⟩
set_option maxHeartbeats 1000000 in
set_option maxRecDepth 100000 in
theorem double_calls (h : NetG w N M room B own G Q) (s : ByteArray) (i : Int) (h0 : 0 ≤ i) (h1 : i < (Q s).length) (hf : ((Q s).length : Int) < room) (x : S34) (hx : (Q s).getD i.toNat z34 = x) :
    Calls Try.prog 13 #[.pointer (some ⟨N, 0, none⟩), .string s, .int .i64 i] w (Done w N M room B own s (setQ Q s (Q s ++ [x])) (.int .i64 0)) := by
  have HSHX := Aside0.mk (show x.f1.length < 140737488355328 from h.short s _ (by rw [← hx, List.getD_eq_getElem?_getD, List.getElem?_eq_getElem (by omega)]; exact List.getElem_mem _))
  have HXE := Aside0.mk hx
  clear hx
  have HI0 := Aside0.mk h0
  have HI1 := Aside0.mk h1
  have HH := Aside0.mk h
  clear h0 h1
  have HF := Aside0.mk hf
  clear hf
  clear h
  go_enter Try.func13, Try.ntmps13
  go_wp2_with (go_at_call 28; (with_reducible refine (find_in' HH.out s i HI0.out HI1.out x HXE.out).mono ?_); rintro e wr ⟨A1, c1, rfl, hM, hb⟩; have HB := Aside0.mk hb; have HNr := Aside0.mk (HH.out.below hb); clear hb; have HM := Aside0.mk hM; clear hM)
  obtain ⟨Aw, cw, hvw, hcw, _⟩ := Kd.R_reads (HNr.out.rows s)
  have hlk := fun o nd => (HNr.out.below (pw_below_drewN (below_alloc (Below.refl _ _) o) nd)).look s
  rw [hvw] at hlk
  have d0 := fun o => Go.Lib.cell?_alloc_some (W := wr) o HNr.out.cell.1
  have d1 := fun o => Go.Lib.cell?_alloc_some (W := wr) o HNr.out.cell.2
  have hge : ¬ (room : Int) ≤ ((Q s).length : Int) := by have := HF.out; omega
  have hlk0 := fun o => hlk o 0
  have HVW := Aside0.mk hvw
  clear hvw hcw
  go_quiet (fail)
  go_wp2_with (fail)
  clear hlk hlk0 d0 d1 hge
  obtain ⟨v1, hve, hR1⟩ := k34_openM HM.out
  injection hve with _ hve
  injection hve with hve _
  subst hve
  have HQLo := HNr.out.few s
  have HSH0 := HNr.out.short s
  have hvw := HVW.out
  clear HVW
  generalize hQ : Q s = Qs at *
  have HG := Aside0.mk hvw
  have HQ := Aside0.mk hQ
  have HQL := Aside0.mk (show Qs.length + 1 ≤ 257 by have := HNr.out.room2; omega)
  have HSH := Aside0.mk HSH0
  have HV := Aside0.mk (show ∀ k, (Value.slice Aw Qs.length cw).ownBlock = some k → k < wr.heap.size from fun k hk => by have hr := HNr.out.rows s; rw [hvw] at hr; exact (HNr.out.lt k s (hr.1 k hk)).2)
  have HLO := Aside0.mk (show ¬ own wr.heap.size = some s from fun e => by have := (HNr.out.lt _ _ e).2; omega)
  have HN0 := Aside0.mk (HNr.out.below (below_drew1 (pw_below_drewN (below_alloc (Below.refl _ _) (.cells #[.int .i64 x.f0, .slice A1 x.f1.length c1] 34)) nq)))
  have HL0 := Aside0.mk (blk_drew (blk_drewN (blk_new wr (.cells #[.int .i64 x.f0, .slice A1 x.f1.length c1] 34)) nq))
  have HB0 := Aside0.mk (below_drew1 (pw_below_drewN (below_alloc (Below.refl wr.heap.size wr) (.cells #[.int .i64 x.f0, .slice A1 x.f1.length c1] 34)) nq))
  have HBS := Aside0.mk (show B ≤ (((wr.alloc (.cells #[.int .i64 x.f0, .slice A1 x.f1.length c1] 34)).drewN nq).drew).heap.size from Nat.le_trans (Nat.le_trans HNr.out.baseM (Nat.le_of_lt HNr.out.map.lt)) HB0.out.size)
  obtain ⟨Ar, cr, hre, hc1, hd1⟩ := Kd.R_reads (Kd.R_below hR1 HB.out)
  injection hre with hre1 _ hre2
  subst hre1 hre2
  have HD0 := Aside0.mk (Kd.C_below hd1 HB0.out)
  have HD1 := Aside0.mk hc1
  have HD2 := HSHX
  clear HXE hvw HQLo HSH0 hQ hR1 hc1 hd1
  refine start_ (n := 16) (S := fun w' => w'.cell? ⟨N, 1, none⟩ = some (.map (some M)) ∧ (Instr.lookup 60 (.map (some M)) (.string s) false).run Try.prog w' = .ok (.slice Aw Qs.length cw) w' ∧ w'.cell? ⟨wr.heap.size, 0, none⟩ = some (.int .i64 x.f0) ∧ w'.cell? ⟨wr.heap.size, 1, none⟩ = some (.slice A1 x.f1.length c1)) (ds := [15]) #[false, false, false, false, false, false, false, false, false, false, false, false, false, false, false, false] (by kernel_rfl) rfl rfl (ps_of HN0.out.cells HN0.out.map HG.out HL0.out) (fun hHeld => ?_); refine with_tabW double.tab6 double.bits6 (fun HT_ HW_ => ?_)
  generalize hW0 : ((wr.alloc (.cells #[.int .i64 x.f0, .slice A1 x.f1.length c1] 34)).drewN nq).drew = W0 at *
  clear hW0
  refine pure_ (i := 0) (N := some 31) (v := ?_) (a' := ?_) #[true, false, false, false, false, false, false, false, false, false, false, false, false, false, false, false] rfl rfl (any_of HT_.out (by kernel_rfl)) (fun _ _ _ h => h) (Or.inl ⟨by rfl, ?_⟩) ?_ ?_
  rotate_left
  · intro w'
    go_simp
    with_reducible rfl
  rotate_left
  · simp only [Act.put, List.setIfInBounds_toArray, List.set_cons_zero, List.set_cons_succ, i64_w, i32_w, xu32_w, xu8_w]
    rfl
  refine pure_ (i := 1) (N := some 32) (v := ?_) (a' := ?_) #[true, true, false, false, false, false, false, false, false, false, false, false, false, false, false, false] rfl rfl (any_of HT_.out (by kernel_rfl)) (fun _ _ _ h => h) (Or.inl ⟨by rfl, ?_⟩) ?_ ?_
  rotate_left
  · intro w'
    go_simp
    with_reducible rfl
  rotate_left
  · simp only [Act.put, List.setIfInBounds_toArray, List.set_cons_zero, List.set_cons_succ, i64_w, i32_w, xu32_w, xu8_w]
    rfl
  refine pure_ (i := 2) (N := some 33) (v := ?_) (a' := ?_) #[true, true, true, false, false, false, false, false, false, false, false, false, false, false, false, false] rfl rfl (any_of HT_.out (by kernel_rfl)) (fun _ _ _ h => h) (Or.inl ⟨by rfl, ?_⟩) ?_ ?_
  rotate_left
  · intro w'
    go_simp
    with_reducible rfl
  rotate_left
  · simp only [Act.put, List.setIfInBounds_toArray, List.set_cons_zero, List.set_cons_succ, i64_w, i32_w, xu32_w, xu8_w]
    rfl
  refine pure_ (i := 4) (N := some 35) (v := ?_) (a' := ?_) #[true, true, true, false, true, false, false, false, false, false, false, false, false, false, false, false] rfl rfl (any_of HT_.out (by kernel_rfl)) (fun _ _ _ h => h) (Or.inl ⟨by rfl, ?_⟩) ?_ ?_
  rotate_left
  · intro w'
    go_simp
    with_reducible rfl
  rotate_left
  · simp only [Act.put, List.setIfInBounds_toArray, List.set_cons_zero, List.set_cons_succ, i64_w, i32_w, xu32_w, xu8_w]
    rfl
  refine pure_ (i := 5) (N := some 36) (v := ?_) (a' := ?_) #[true, true, true, false, true, true, false, false, false, false, false, false, false, false, false, false] rfl rfl (any_of HT_.out (by kernel_rfl)) (fun _ _ _ h => h) (Or.inl ⟨by rfl, ?_⟩) ?_ ?_
  rotate_left
  · intro w'
    go_simp
    with_reducible rfl
  rotate_left
  · simp only [Act.put, List.setIfInBounds_toArray, List.set_cons_zero, List.set_cons_succ, i64_w, i32_w, xu32_w, xu8_w]
    rfl
  refine pure_ (i := 6) (N := some 37) (v := ?_) (a' := ?_) #[true, true, true, false, true, true, true, false, false, false, false, false, false, false, false, false] rfl rfl (any_of HT_.out (by kernel_rfl)) (fun _ _ _ h => h) (Or.inl ⟨by rfl, ?_⟩) ?_ ?_
  rotate_left
  · intro w'
    go_simp
    with_reducible rfl
  rotate_left
  · simp only [Act.put, List.setIfInBounds_toArray, List.set_cons_zero, List.set_cons_succ, i64_w, i32_w, xu32_w, xu8_w]
    rfl
  refine pure_ (i := 7) (N := some 38) (v := ?_) (a' := ?_) #[true, true, true, false, true, true, true, true, false, false, false, false, false, false, false, false] rfl rfl (any_of HT_.out (by kernel_rfl)) (fun _ _ _ h => h) (Or.inl ⟨by rfl, ?_⟩) ?_ ?_
  rotate_left
  · intro w'
    go_simp
    with_reducible rfl
  rotate_left
  · simp only [Act.put, List.setIfInBounds_toArray, List.set_cons_zero, List.set_cons_succ, i64_w, i32_w, xu32_w, xu8_w]
    rfl
  refine pure_ (i := 9) (N := some 40) (v := ?_) (a' := ?_) #[true, true, true, false, true, true, true, true, false, true, false, false, false, false, false, false] rfl rfl (any_of HT_.out (by kernel_rfl)) (fun _ _ _ h => h) (Or.inl ⟨by rfl, ?_⟩) ?_ ?_
  rotate_left
  · intro w'
    go_simp
    with_reducible rfl
  rotate_left
  · simp only [Act.put, List.setIfInBounds_toArray, List.set_cons_zero, List.set_cons_succ, i64_w, i32_w, xu32_w, xu8_w]
    rfl
  refine take_ (i := 3) (N := some 34) (v := ?_) (a' := ?_) #[true, true, true, true, true, true, true, true, false, true, false, false, false, false, false, false] rfl rfl (take_ofW HT_.out HW_.out (by kernel_rfl)) (fun _ _ _ h => h) (Or.inl ⟨by rfl, ?_⟩) hHeld ?_ ?_
  rotate_left
  · rintro w' ⟨s0, s1, s2, s3⟩
    go_simp
    with_reducible rfl
  rotate_left
  · simp only [Act.put, List.setIfInBounds_toArray, List.set_cons_zero, List.set_cons_succ, i64_w, i32_w, xu32_w, xu8_w]
    rfl
  refine take_ (i := 8) (N := some 39) (v := ?_) (a' := ?_) #[true, true, true, true, true, true, true, true, true, true, false, false, false, false, false, false] rfl rfl (take_ofW HT_.out HW_.out (by kernel_rfl)) (fun _ _ _ h => h) (Or.inl ⟨by rfl, ?_⟩) hHeld ?_ ?_
  rotate_left
  · rintro w' ⟨s0, s1, s2, s3⟩
    go_simp
    with_reducible rfl
  rotate_left
  · simp only [Act.put, List.setIfInBounds_toArray, List.set_cons_zero, List.set_cons_succ, i64_w, i32_w, xu32_w, xu8_w]
    rfl
  refine take_ (i := 10) (N := some 41) (v := ?_) (a' := ?_) #[true, true, true, true, true, true, true, true, true, true, true, false, false, false, false, false] rfl rfl (take_ofW HT_.out HW_.out (by kernel_rfl)) (fun _ _ _ h => h) (Or.inl ⟨by rfl, ?_⟩) hHeld ?_ ?_
  rotate_left
  · rintro w' ⟨s0, s1, s2, s3⟩
    go_simp
    with_reducible rfl
  rotate_left
  · simp only [Act.put, List.setIfInBounds_toArray, List.set_cons_zero, List.set_cons_succ, i64_w, i32_w, xu32_w, xu8_w]
    rfl
  refine take_ (i := 11) (N := some 42) (v := ?_) (a' := ?_) #[true, true, true, true, true, true, true, true, true, true, true, true, false, false, false, false] rfl rfl (take_ofW HT_.out HW_.out (by kernel_rfl)) (fun _ _ _ h => h) (Or.inl ⟨by rfl, ?_⟩) hHeld ?_ ?_
  rotate_left
  · rintro w' ⟨s0, s1, s2, s3⟩
    go_simp
    with_reducible rfl
  rotate_left
  · simp only [Act.put, List.setIfInBounds_toArray, List.set_cons_zero, List.set_cons_succ, i64_w, i32_w, xu32_w, xu8_w]
    rfl
  refine one_ (i := 12) (N := some 43) #[true, true, true, true, true, true, true, true, true, true, true, true, true, false, false, false] rfl rfl (one_of HT_.out (by kernel_rfl)) (by decide) (fun K hK => ?_)
  refine goes_ Try.func27 (by kernel_rfl) rfl #[.agg #[.int .i64 x.f0, .slice A1 x.f1.length c1]] (by rfl) rfl rfl (by (try simp only [List.map_toArray, List.map_cons, List.map_nil]); first | done | rfl) ?_
  with_reducible refine (net_own.calls x.f0 A1 c1 x.f1 x.f0 x.f1 _ ?side1 ?side2 ?side3).mono ?_
  (case side1 => exact HD0.out)
  (case side2 => exact HD1.out)
  (case side3 => exact own_f _ _ HD2.out)
  rintro e w1 ⟨v1, rfl, hR1, hb1⟩
  refine ⟨_, rfl, ?_⟩
  obtain ⟨A2, c2, rfl⟩ := Kd.R_slice hR1
  have HN1 := Aside0.mk (HN0.out.below hb1)
  have HL1 := Aside0.mk (blk_below HL0.out hb1)
  have HR1 := Aside0.mk (Kd.R_bound hR1)
  have HS1 := Aside0.mk hb1.size
  have HB1 := Aside0.mk (HB0.out.trans (hb1.mono HB0.out.size))
  clear hR1 hb1
  refine hK.out _ _ (ps_of HN1.out.cells HN1.out.map HG.out HL1.out) (fun hHeld => ?_)
  clear hK K
  refine norm_ (a' := ?_) ?_ ?_
  rotate_left
  · show Act.put _ (some 43) _ = _
    simp only [Act.put, List.setIfInBounds_toArray, List.set_cons_zero, List.set_cons_succ, i64_w, i32_w, xu32_w, xu8_w]
    rfl
  refine one_ (i := 13) (N := some 44) #[true, true, true, true, true, true, true, true, true, true, true, true, true, true, false, false] rfl rfl (one_of HT_.out (by kernel_rfl)) (by decide) (fun K hK => ?_)
  refine value_ (v := .slice (some ⟨w1.heap.size, 0, none⟩) 1 1) (w1 := w1.alloc (.cells #[.int .i64 x.f0, .slice A2 x.f1.length c2] 34)) (by rfl) rfl (by first | (go_simp; done) | (go_simp; rfl)) ?_
  refine hK.out _ _ (ps_of (HN1.out.below (below_alloc (Below.refl _ _) _)).cells (HN1.out.below (below_alloc (Below.refl _ _) _)).map HG.out (blk_alloc HL1.out _)) (fun hHeld => ?_)
  clear hK K
  refine norm_ (a' := ?_) ?_ ?_
  rotate_left
  · show Act.put _ (some 44) _ = _
    simp only [Act.put, List.setIfInBounds_toArray, List.set_cons_zero, List.set_cons_succ, i64_w, i32_w, xu32_w, xu8_w]
    rfl
  refine one_ (i := 14) (N := some 45) #[true, true, true, true, true, true, true, true, true, true, true, true, true, true, true, false] rfl rfl (one_of HT_.out (by kernel_rfl)) (by decide) (fun K hK => ?_)
  refine Kd.R_append_step k34 (w0 := w1) B (by rfl) (.tmp 41) (.tmp 44) 29 34 (.agg #[.int .i64 0, .slice none 0 0]) 32 rfl Try.underlying29 info34 rfl (by decide) (by omega) (.slice Aw Qs.length cw) Qs x [.int .i64 x.f0, .slice A2 x.f1.length c2] (fun k => own k = some s ∨ wr.heap.size ≤ k) (fun k => W0.heap.size ≤ k) rfl rfl ?aP ?aK ?aF ?aO ?aB ?aS ?aL ?_
  (case aP => exact k34_mkM w1 B _ x (Kd.R_lower (Kd.R_mono HR1.out (fun k hk => hk.2.1)) HBS.out))
  (case aK => exact fun k hk => ⟨.inr (Nat.le_trans HB0.out.size hk), fun e => by have := HV.out k e.symm; have := HB0.out.size; omega⟩)
  (case aF => exact fun k hk => .inr (Nat.le_trans HB1.out.size hk))
  (case aO => have hr := HN1.out.rows s; rw [HG.out, HQ.out] at hr; exact Kd.R_mono hr (fun _ hk => .inl hk))
  (case aB => exact Below.refl _ _)
  (case aS => exact Nat.le_trans HBS.out HS1.out)
  (case aL => have := HQL.out; omega)
  intro v2 w3 ho hbB hg hat
  obtain ⟨A3, c3, rfl⟩ := Kd.R_slice ho
  rw [show (Qs ++ [x]).length = Qs.length + 1 from List.length_append] at ho ⊢
  have HC3 := Aside0.mk ((Chg.of_below (fun _ => False) HB1.out).trans (Chg.of_grown hg (fun k cells e hk => by have hr := HN1.out.rows s; rw [HG.out] at hr; exact typed_ne hr e (by decide) hk)) (U := fun k => own k = some s) (fun _ _ e => e.elim) (fun k _ e => by have hr := HN1.out.rows s; rw [HG.out] at hr; exact hr.1 k e.symm))
  have HGR := Aside0.mk hg
  have HR3 := Aside0.mk ho
  clear ho hbB hg hat
  have HM3 := Aside0.mk (HN1.out.map.move (w' := w3) ((HC3.out.block M HNr.out.map.lt (fun e => by rw [HNr.out.notM] at e; cases e)).trans ((HB1.out.block M HNr.out.map.lt).symm)))
  have HC3N : w3.heap[N]? = some (.cells #[.int .i64 room, .map (some M)] 62 (0, 0)) := (HC3.out.block N (heap_lt HNr.out.cells) (fun e => by rw [HNr.out.notN] at e; cases e)).trans HNr.out.cells
  have HL3 : w3.heap[wr.heap.size]? = some (.cells #[.int .i64 x.f0, .slice A1 x.f1.length c1] 34 (0, 0)) := (HGR.out.block wr.heap.size (heap_lt HL1.out) (fun e => by have hr := HN1.out.rows s; rw [HG.out] at hr; have h1 := hr.1 wr.heap.size e.symm; exact absurd h1 HLO.out)).trans HL1.out
  refine hK.out _ _ (ps_of HC3N HM3.out HG.out HL3) (fun hHeld => ?_)
  clear hK K
  refine norm_ (a' := ?_) ?_ ?_
  rotate_left
  · show Act.put _ (some 45) _ = _
    simp only [Act.put, List.setIfInBounds_toArray, List.set_cons_zero, List.set_cons_succ, i64_w, i32_w, xu32_w, xu8_w]
    rfl
  refine last_ (i := 15) (N := none) #[true, true, true, true, true, true, true, true, true, true, true, true, true, true, true, true] rfl rfl (one_of HT_.out (by kernel_rfl)) (by decide) (fun K hK => ?_)
  obtain ⟨w4, hrun4, hM4, e1, e2, e3, e4, e5⟩ := HM3.out.put (P := Try.prog) Try.underlying60 Try.underlying9 s (.slice A3 (Qs.length + 1) c3)
  refine skip_ (w1 := w4) (by rfl) rfl (by first | (go_simp; done) | (go_simp; rfl)) ?_
  refine hK.out _ _ ?_
  clear hK K
  refine done_ (done_of HT_.out (by kernel_rfl)) ?_
  obtain ⟨hN4, hC4⟩ := turned HNr.out s (.slice A3 (Qs.length + 1) c3) (Qs ++ [x]) _ HC3.out HR3.out (by rw [List.length_append, List.length_singleton]; have e1 := HF.out; omega) (fun y hy => by
    rcases List.mem_append.1 hy with h | h
    · exact HSH.out y h
    · rw [List.mem_singleton.1 h]; exact HSHX.out) hM4 (fun t => by by_cases h : t = s <;> simp [h]) e1 e2 e3 e4 e5
  have HN4 := Aside0.mk hN4
  have HC4 := Aside0.mk hC4
  clear hN4 hC4 hM4 hrun4 e1 e2 e3 e4 e5
  go_wp2_with (fail)
  go_ret
  refine ⟨_, _, rfl, HN4.out, (Chg.of_below (fun _ => False) HB.out).trans HC4.out (fun _ _ e => e.elim) (fun _ _ e => e), fun k hk => ?_⟩
  have := HB.out.size
  unfold ownNew
  rw [if_neg (by omega)]
end
end Go.Proofs.Ytlnipfmgdkiboaa.N
