import Derived.Test.YtlnipfmgdkiboaaNL
import Derived.OwnWalk
/- The network by hand: Double. -/
namespace Go.Proofs.Ytlnipfmgdkiboaa.N
open Go.RowKit Go.Proofs.Ytlnipfmgdkiboaa.Q Go.Proofs.YtlnipfmgdkiboaaW.PrintWords Go.Proofs.YtlnipfmgdkiboaaW.PrintLast Go.Proofs.YtlnipfmgdkiboaaW.PrintMore
set_option linter.unusedVariables false
set_option linter.unusedSimpArgs false
def double.T6 : Bool × List (List Nat × List Nat) := (true, [([], []), ([0], [0]), ([1], [1]), ([2], [2]), ([], []), ([], []), ([5], [5]), ([6], [6]), ([7], [7]), ([], []), ([8, 9], [8, 9]), ([], []), ([11], [11]), ([12], [12]), ([10, 13, 12], [10, 13]), ([3, 4, 14, 14, 0, 1, 2, 3, 4, 5, 6, 7, 8, 9, 10, 11, 12, 13, 14], [3, 4, 14])])
def double.B6 : List Nat := [0, 1, 3, 7, 0, 0, 32, 96, 224, 0, 992, 0, 2048, 6144, 16352, 32767]
theorem double.tab6 : rtab .any (opsOf Try.f13 6) = double.T6 := by kernel_rfl
theorem double.bits6 : waitsOk double.T6.2 double.B6 = true := by kernel_rfl
section
variable {w : World} {N M : Nat} {room : Int} {B : Nat} {own : Nat → Option ByteArray} {G : ByteArray → Option Value} {Q : ByteArray → List S34}
/-- What is left when a tenant's letters have been turned. -/
def Done (w : World) (N M : Nat) (room : Int) (B : Nat) (own : Nat → Option ByteArray) (s : ByteArray) (Q' : ByteArray → List S34) (v : Value) (e : Ending) (w' : World) : Prop :=
  ∃ own' G', e = .returned v ∧ NetG w' N M room B own' G' Q' ∧ Chg (fun k => k = M ∨ own k = some s) w w' ∧ ∀ k, k < w.heap.size → own' k = own k
theorem find_in' (h : NetG w N M room B own G Q) (s : ByteArray) (i : Int) (h0 : 0 ≤ i) (h1 : i < (Q s).length) (x : S34) (hx : (Q s).getD i.toNat z34 = x) :
    Calls Try.prog 28 #[.pointer (some ⟨N, 0, none⟩), .string s, .int .i64 i] w fun e w' => ∃ A1 c1, e = .returned (.tuple #[.agg #[.int .i64 x.f0, .slice A1 x.f1.length c1], .int .i64 0]) ∧ k34.M w B (fun k => own k = some s) x [.int .i64 x.f0, .slice A1 x.f1.length c1] ∧ Below w.heap.size w w' := by
  subst hx
  exact find_in h s i h0 h1
set_option maxHeartbeats 1000000 in
set_option maxRecDepth 100000 in
theorem double_out (h : NetG w N M room B own G Q) (s : ByteArray) (i : Int) (hi : ¬(0 ≤ i ∧ i < (Q s).length)) :
    Calls Try.prog 13 #[.pointer (some ⟨N, 0, none⟩), .string s, .int .i64 i] w fun e w' => e = .returned (.int .i64 4) ∧ Below w.heap.size w w' := by
  have HI := Aside0.mk hi
  clear hi
  go_enter Try.func13, Try.ntmps13
  go_wp2_with (go_at_call 28; (with_reducible refine (find_out h s i HI.out).mono ?_); rintro e w1 ⟨rfl, hb⟩; have HB := Aside0.mk hb; clear hb)
  go_ret
  exact ⟨rfl, below_alloc HB.out _⟩
set_option maxHeartbeats 1000000 in
set_option maxRecDepth 100000 in
theorem double_full (h : NetG w N M room B own G Q) (s : ByteArray) (i : Int) (h0 : 0 ≤ i) (h1 : i < (Q s).length) (hf : ((Q s).length : Int) = room) :
    Calls Try.prog 13 #[.pointer (some ⟨N, 0, none⟩), .string s, .int .i64 i] w fun e w' => e = .returned (.int .i64 5) ∧ Below w.heap.size w w' := by
  have HI0 := Aside0.mk h0
  have HI1 := Aside0.mk h1
  have HH := Aside0.mk h
  clear h0 h1
  have HF := Aside0.mk hf
  clear hf
  clear h
  go_enter Try.func13, Try.ntmps13
  go_wp2_with (go_at_call 28; (with_reducible refine (find_in HH.out s i HI0.out HI1.out).mono ?_); rintro e w1 ⟨A1, c1, rfl, hM, hb⟩; have HB := Aside0.mk hb; have hN := HH.out.below hb; clear hb; have HM := Aside0.mk hM; clear hM; generalize (Q s).getD i.toNat z34 = x at *)
  obtain ⟨Aw, cw, hvw, hcw, _⟩ := Kd.R_reads (hN.rrows s)
  have hlk := fun o nd => (hN.below (pw_below_drewN (below_alloc (Below.refl _ _) o) nd)).look s
  rw [hvw] at hlk
  have d0 := fun o => Go.Lib.cell?_alloc_some (W := w1) o hN.cell.1
  have d1 := fun o => Go.Lib.cell?_alloc_some (W := w1) o hN.cell.2
  have hge : (room : Int) ≤ ((Q s).length : Int) := by have := HF.out; omega
  have hlk0 := fun o => hlk o 0
  clear hN hvw hcw
  go_quiet (fail)
  go_wp2_with (fail)
  go_ret
  exact ⟨rfl, pw_below_drewN (below_alloc HB.out _) _⟩
set_option maxHeartbeats 1000000 in
set_option maxRecDepth 100000 in
theorem double_calls (h : NetG w N M room B own G Q) (s : ByteArray) (i : Int) (h0 : 0 ≤ i) (h1 : i < (Q s).length) (hf : ((Q s).length : Int) < room) (x : S34) (hx : (Q s).getD i.toNat z34 = x) :
    Calls Try.prog 13 #[.pointer (some ⟨N, 0, none⟩), .string s, .int .i64 i] w (Done w N M room B own s (setQ Q s (Q s ++ [x])) (.int .i64 0)) := by
  have HSHX := Aside0.mk (show x.f1.length < 140737488355328 from h.short s _ (by rw [← hx, List.getD_eq_getElem?_getD, List.getElem?_eq_getElem (by omega)]; exact List.getElem_mem _))
  have HXE := Aside0.mk hx
  clear hx
  have HI0 := Aside0.mk h0
  have HI1 := Aside0.mk h1
  have HH := Aside0.mk h
  clear h0 h1
  have HF := Aside0.mk hf
  clear hf
  clear h
  go_enter Try.func13, Try.ntmps13
  go_wp2_with (go_at_call 28; (with_reducible refine (find_in' HH.out s i HI0.out HI1.out x HXE.out).mono ?_); rintro e wr ⟨A1, c1, rfl, hM, hb⟩; have HB := Aside0.mk hb; have HNr := Aside0.mk (HH.out.below hb); clear hb; have HM := Aside0.mk hM; clear hM)
  obtain ⟨Aw, cw, hvw, hcw, _⟩ := Kd.R_reads (HNr.out.rrows s)
  have hlk := fun o nd => (HNr.out.below (pw_below_drewN (below_alloc (Below.refl _ _) o) nd)).look s
  rw [hvw] at hlk
  have d0 := fun o => Go.Lib.cell?_alloc_some (W := wr) o HNr.out.cell.1
  have d1 := fun o => Go.Lib.cell?_alloc_some (W := wr) o HNr.out.cell.2
  have hge : ¬ (room : Int) ≤ ((Q s).length : Int) := by have := HF.out; omega
  have hlk0 := fun o => hlk o 0
  have HVW := Aside0.mk hvw
  clear hvw hcw
  go_quiet (fail)
  go_wp2_with (fail)
  clear hlk hlk0 d0 d1 hge
  obtain ⟨v1, hve, hR1⟩ := k34_openM HM.out
  injection hve with _ hve
  injection hve with hve _
  subst hve
  have HQLo := HNr.out.few s
  have HSH0 := HNr.out.short s
  have hvw := HVW.out
  clear HVW
  generalize hQ : Q s = Qs at *
  have HG := Aside0.mk hvw
  have HQ := Aside0.mk hQ
  have HQL := Aside0.mk (show Qs.length + 1 ≤ 257 by have := HNr.out.room2; omega)
  have HSH := Aside0.mk HSH0
  have HV := Aside0.mk (show ∀ k, (Value.slice Aw Qs.length cw).ownBlock = some k → k < wr.heap.size from fun k hk => by have hr := HNr.out.rrows s; rw [hvw] at hr; exact (HNr.out.lt k s (hr.1 k hk)).2)
  have HLO := Aside0.mk (show ¬ own wr.heap.size = some s from fun e => by have := (HNr.out.lt _ _ e).2; omega)
  have HN0 := Aside0.mk (HNr.out.below (below_drew1 (pw_below_drewN (below_alloc (Below.refl _ _) (.cells #[.int .i64 x.f0, .slice A1 x.f1.length c1] 34)) nq)))
  have HL0 := Aside0.mk (blk_drew (blk_drewN (blk_new wr (.cells #[.int .i64 x.f0, .slice A1 x.f1.length c1] 34)) nq))
  have HB0 := Aside0.mk (below_drew1 (pw_below_drewN (below_alloc (Below.refl wr.heap.size wr) (.cells #[.int .i64 x.f0, .slice A1 x.f1.length c1] 34)) nq))
  have HBS := Aside0.mk (show B ≤ (((wr.alloc (.cells #[.int .i64 x.f0, .slice A1 x.f1.length c1] 34)).drewN nq).drew).heap.size from Nat.le_trans (Nat.le_trans HNr.out.baseM (Nat.le_of_lt HNr.out.map.lt)) HB0.out.size)
  obtain ⟨Ar, cr, hre, hc1, hd1⟩ := Kd.R_reads (Kd.R_below hR1 HB.out)
  injection hre with hre1 _ hre2
  subst hre1 hre2
  have HD0 := Aside0.mk (Kd.C_below hd1 HB0.out)
  have HD1 := Aside0.mk hc1
  have HD2 := HSHX
  clear HXE hvw HQLo HSH0 hQ hR1 hc1 hd1
  refine start_ (n := 16) (S := fun w' => w'.cell? ⟨N, 1, none⟩ = some (.map (some M)) ∧ (Instr.lookup 60 (.map (some M)) (.string s) false).run Try.prog w' = .ok (.slice Aw Qs.length cw) w' ∧ w'.cell? ⟨wr.heap.size, 0, none⟩ = some (.int .i64 x.f0) ∧ w'.cell? ⟨wr.heap.size, 1, none⟩ = some (.slice A1 x.f1.length c1)) (ds := [15]) #[false, false, false, false, false, false, false, false, false, false, false, false, false, false, false, false] (by kernel_rfl) rfl rfl (ps_of HN0.out.cells HN0.out.map HG.out HL0.out) (fun hHeld => ?_); refine with_tabW double.tab6 double.bits6 (fun HT_ HW_ => ?_)
  generalize hW0 : ((wr.alloc (.cells #[.int .i64 x.f0, .slice A1 x.f1.length c1] 34)).drewN nq).drew = W0 at *
  clear hW0
  refine pure_ (i := 0) (N := some 31) (v := ?_) (a' := ?_) #[true, false, false, false, false, false, false, false, false, false, false, false, false, false, false, false] rfl rfl (any_of HT_.out (by kernel_rfl)) (fun _ _ _ h => h) (Or.inl ⟨by rfl, ?_⟩) ?_ ?_
  rotate_left
  · intro w'
    go_simp
    with_reducible rfl
  rotate_left
  · simp only [Act.put, List.setIfInBounds_toArray, List.set_cons_zero, List.set_cons_succ, i64_w, i32_w, xu32_w, xu8_w]
    rfl
  refine pure_ (i := 1) (N := some 32) (v := ?_) (a' := ?_) #[true, true, false, false, false, false, false, false, false, false, false, false, false, false, false, false] rfl rfl (any_of HT_.out (by kernel_rfl)) (fun _ _ _ h => h) (Or.inl ⟨by rfl, ?_⟩) ?_ ?_
  rotate_left
  · intro w'
    go_simp
    with_reducible rfl
  rotate_left
  · simp only [Act.put, List.setIfInBounds_toArray, List.set_cons_zero, List.set_cons_succ, i64_w, i32_w, xu32_w, xu8_w]
    rfl
  refine pure_ (i := 2) (N := some 33) (v := ?_) (a' := ?_) #[true, true, true, false, false, false, false, false, false, false, false, false, false, false, false, false] rfl rfl (any_of HT_.out (by kernel_rfl)) (fun _ _ _ h => h) (Or.inl ⟨by rfl, ?_⟩) ?_ ?_
  rotate_left
  · intro w'
    go_simp
    with_reducible rfl
  rotate_left
  · simp only [Act.put, List.setIfInBounds_toArray, List.set_cons_zero, List.set_cons_succ, i64_w, i32_w, xu32_w, xu8_w]
    rfl
  refine pure_ (i := 4) (N := some 35) (v := ?_) (a' := ?_) #[true, true, true, false, true, false, false, false, false, false, false, false, false, false, false, false] rfl rfl (any_of HT_.out (by kernel_rfl)) (fun _ _ _ h => h) (Or.inl ⟨by rfl, ?_⟩) ?_ ?_
  rotate_left
  · intro w'
    go_simp
    with_reducible rfl
  rotate_left
  · simp only [Act.put, List.setIfInBounds_toArray, List.set_cons_zero, List.set_cons_succ, i64_w, i32_w, xu32_w, xu8_w]
    rfl
  refine pure_ (i := 5) (N := some 36) (v := ?_) (a' := ?_) #[true, true, true, false, true, true, false, false, false, false, false, false, false, false, false, false] rfl rfl (any_of HT_.out (by kernel_rfl)) (fun _ _ _ h => h) (Or.inl ⟨by rfl, ?_⟩) ?_ ?_
  rotate_left
  · intro w'
    go_simp
    with_reducible rfl
  rotate_left
  · simp only [Act.put, List.setIfInBounds_toArray, List.set_cons_zero, List.set_cons_succ, i64_w, i32_w, xu32_w, xu8_w]
    rfl
  refine pure_ (i := 6) (N := some 37) (v := ?_) (a' := ?_) #[true, true, true, false, true, true, true, false, false, false, false, false, false, false, false, false] rfl rfl (any_of HT_.out (by kernel_rfl)) (fun _ _ _ h => h) (Or.inl ⟨by rfl, ?_⟩) ?_ ?_
  rotate_left
  · intro w'
    go_simp
    with_reducible rfl
  rotate_left
  · simp only [Act.put, List.setIfInBounds_toArray, List.set_cons_zero, List.set_cons_succ, i64_w, i32_w, xu32_w, xu8_w]
    rfl
  refine pure_ (i := 7) (N := some 38) (v := ?_) (a' := ?_) #[true, true, true, false, true, true, true, true, false, false, false, false, false, false, false, false] rfl rfl (any_of HT_.out (by kernel_rfl)) (fun _ _ _ h => h) (Or.inl ⟨by rfl, ?_⟩) ?_ ?_
  rotate_left
  · intro w'
    go_simp
    with_reducible rfl
  rotate_left
  · simp only [Act.put, List.setIfInBounds_toArray, List.set_cons_zero, List.set_cons_succ, i64_w, i32_w, xu32_w, xu8_w]
    rfl
  refine pure_ (i := 9) (N := some 40) (v := ?_) (a' := ?_) #[true, true, true, false, true, true, true, true, false, true, false, false, false, false, false, false] rfl rfl (any_of HT_.out (by kernel_rfl)) (fun _ _ _ h => h) (Or.inl ⟨by rfl, ?_⟩) ?_ ?_
  rotate_left
  · intro w'
    go_simp
    with_reducible rfl
  rotate_left
  · simp only [Act.put, List.setIfInBounds_toArray, List.set_cons_zero, List.set_cons_succ, i64_w, i32_w, xu32_w, xu8_w]
    rfl
  refine take_ (i := 3) (N := some 34) (v := ?_) (a' := ?_) #[true, true, true, true, true, true, true, true, false, true, false, false, false, false, false, false] rfl rfl (take_ofW HT_.out HW_.out (by kernel_rfl)) (fun _ _ _ h => h) (Or.inl ⟨by rfl, ?_⟩) hHeld ?_ ?_
  rotate_left
  · rintro w' ⟨s0, s1, s2, s3⟩
    go_simp
    with_reducible rfl
  rotate_left
  · simp only [Act.put, List.setIfInBounds_toArray, List.set_cons_zero, List.set_cons_succ, i64_w, i32_w, xu32_w, xu8_w]
    rfl
  refine take_ (i := 8) (N := some 39) (v := ?_) (a' := ?_) #[true, true, true, true, true, true, true, true, true, true, false, false, false, false, false, false] rfl rfl (take_ofW HT_.out HW_.out (by kernel_rfl)) (fun _ _ _ h => h) (Or.inl ⟨by rfl, ?_⟩) hHeld ?_ ?_
  rotate_left
  · rintro w' ⟨s0, s1, s2, s3⟩
    go_simp
    with_reducible rfl
  rotate_left
  · simp only [Act.put, List.setIfInBounds_toArray, List.set_cons_zero, List.set_cons_succ, i64_w, i32_w, xu32_w, xu8_w]
    rfl
  refine take_ (i := 10) (N := some 41) (v := ?_) (a' := ?_) #[true, true, true, true, true, true, true, true, true, true, true, false, false, false, false, false] rfl rfl (take_ofW HT_.out HW_.out (by kernel_rfl)) (fun _ _ _ h => h) (Or.inl ⟨by rfl, ?_⟩) hHeld ?_ ?_
  rotate_left
  · rintro w' ⟨s0, s1, s2, s3⟩
    go_simp
    with_reducible rfl
  rotate_left
  · simp only [Act.put, List.setIfInBounds_toArray, List.set_cons_zero, List.set_cons_succ, i64_w, i32_w, xu32_w, xu8_w]
    rfl
  refine take_ (i := 11) (N := some 42) (v := ?_) (a' := ?_) #[true, true, true, true, true, true, true, true, true, true, true, true, false, false, false, false] rfl rfl (take_ofW HT_.out HW_.out (by kernel_rfl)) (fun _ _ _ h => h) (Or.inl ⟨by rfl, ?_⟩) hHeld ?_ ?_
  rotate_left
  · rintro w' ⟨s0, s1, s2, s3⟩
    go_simp
    with_reducible rfl
  rotate_left
  · simp only [Act.put, List.setIfInBounds_toArray, List.set_cons_zero, List.set_cons_succ, i64_w, i32_w, xu32_w, xu8_w]
    rfl
  refine one_ (i := 12) (N := some 43) #[true, true, true, true, true, true, true, true, true, true, true, true, true, false, false, false] rfl rfl (one_of HT_.out (by kernel_rfl)) (by decide) (fun K hK => ?_)
  refine goes_ Try.func27 (by kernel_rfl) rfl #[.agg #[.int .i64 x.f0, .slice A1 x.f1.length c1]] (by rfl) rfl rfl (by (try simp only [List.map_toArray, List.map_cons, List.map_nil]); first | done | rfl) ?_
  with_reducible refine (net_own.calls x.f0 A1 c1 x.f1 x.f0 x.f1 _ ?side1 ?side2 ?side3).mono ?_
  (case side1 => exact HD0.out)
  (case side2 => exact HD1.out)
  (case side3 => exact own_f _ _ HD2.out)
  rintro e w1 ⟨v1, rfl, hR1, hb1⟩
  refine ⟨_, rfl, ?_⟩
  obtain ⟨A2, c2, rfl⟩ := Kd.R_slice hR1
  have HN1 := Aside0.mk (HN0.out.below hb1)
  have HL1 := Aside0.mk (blk_below HL0.out hb1)
  have HR1 := Aside0.mk (Kd.R_bound hR1)
  have HS1 := Aside0.mk hb1.size
  have HB1 := Aside0.mk (HB0.out.trans (hb1.mono HB0.out.size))
  clear hR1 hb1
  refine hK.out _ _ (ps_of HN1.out.cells HN1.out.map HG.out HL1.out) (fun hHeld => ?_)
  clear hK K
  refine norm_ (a' := ?_) ?_ ?_
  rotate_left
  · show Act.put _ (some 43) _ = _
    simp only [Act.put, List.setIfInBounds_toArray, List.set_cons_zero, List.set_cons_succ, i64_w, i32_w, xu32_w, xu8_w]
    rfl
  refine one_ (i := 13) (N := some 44) #[true, true, true, true, true, true, true, true, true, true, true, true, true, true, false, false] rfl rfl (one_of HT_.out (by kernel_rfl)) (by decide) (fun K hK => ?_)
  refine value_ (v := .slice (some ⟨w1.heap.size, 0, none⟩) 1 1) (w1 := w1.alloc (.cells #[.int .i64 x.f0, .slice A2 x.f1.length c2] 34)) (by rfl) rfl (by first | (go_simp; done) | (go_simp; rfl)) ?_
  refine hK.out _ _ (ps_of (HN1.out.below (below_alloc (Below.refl _ _) _)).cells (HN1.out.below (below_alloc (Below.refl _ _) _)).map HG.out (blk_alloc HL1.out _)) (fun hHeld => ?_)
  clear hK K
  refine norm_ (a' := ?_) ?_ ?_
  rotate_left
  · show Act.put _ (some 44) _ = _
    simp only [Act.put, List.setIfInBounds_toArray, List.set_cons_zero, List.set_cons_succ, i64_w, i32_w, xu32_w, xu8_w]
    rfl
  refine one_ (i := 14) (N := some 45) #[true, true, true, true, true, true, true, true, true, true, true, true, true, true, true, false] rfl rfl (one_of HT_.out (by kernel_rfl)) (by decide) (fun K hK => ?_)
  refine Kd.S_append_step k34 (w0 := w1) B (by rfl) (.tmp 41) (.tmp 44) 29 34 (.agg #[.int .i64 0, .slice none 0 0]) 32 rfl Try.underlying29 info34 rfl (by decide) (by omega) (.slice Aw Qs.length cw) Qs x [.int .i64 x.f0, .slice A2 x.f1.length c2] (fun k => own k = some s ∨ wr.heap.size ≤ k) (fun k => W0.heap.size ≤ k) rfl rfl ?aP ?aK ?aF ?aO ?aB ?aS ?aL ?_
  (case aP => exact k34_mkM w1 B _ x (Kd.R_lower (Kd.R_mono HR1.out (fun k hk => hk.2.1)) HBS.out))
  (case aK => exact fun k hk => ⟨.inr (Nat.le_trans HB0.out.size hk), fun e => by have := HV.out k e.symm; have := HB0.out.size; omega⟩)
  (case aF => exact fun k hk => .inr (Nat.le_trans HB1.out.size hk))
  (case aO => have hr := HN1.out.rows s; rw [HG.out, HQ.out] at hr; exact Kd.S_mono hr (fun k hk => ⟨.inl hk, fun e => by have h1 := (HNr.out.lt k s hk).2; have h2 := HB0.out.size; omega⟩))
  (case aB => exact Below.refl _ _)
  (case aS => exact Nat.le_trans HBS.out HS1.out)
  (case aL => have := HQL.out; omega)
  intro v2 w3 ho hbB hg hat
  obtain ⟨A3, c3, rfl⟩ := Kd.S_slice ho
  rw [show (Qs ++ [x]).length = Qs.length + 1 from List.length_append] at ho ⊢
  have HC3 := Aside0.mk ((Chg.of_below (fun _ => False) HB1.out).trans (Chg.of_grown hg (fun k cells e hk => by have hr := HN1.out.rrows s; rw [HG.out] at hr; exact typed_ne hr e (by decide) hk)) (U := fun k => own k = some s) (fun _ _ e => e.elim) (fun k _ e => by have hr := HN1.out.rrows s; rw [HG.out] at hr; exact hr.1 k e.symm))
  have HGR := Aside0.mk hg
  have HR3 := Aside0.mk ho
  clear ho hbB hg hat
  have HM3 := Aside0.mk (HN1.out.map.move (w' := w3) ((HC3.out.block M HNr.out.map.lt (fun e => by rw [HNr.out.notM] at e; cases e)).trans ((HB1.out.block M HNr.out.map.lt).symm)))
  have HC3N : w3.heap[N]? = some (.cells #[.int .i64 room, .map (some M)] 62 (0, 0)) := (HC3.out.block N (heap_lt HNr.out.cells) (fun e => by rw [HNr.out.notN] at e; cases e)).trans HNr.out.cells
  have HL3 : w3.heap[wr.heap.size]? = some (.cells #[.int .i64 x.f0, .slice A1 x.f1.length c1] 34 (0, 0)) := (HGR.out.block wr.heap.size (heap_lt HL1.out) (fun e => by have hr := HN1.out.rrows s; rw [HG.out] at hr; have h1 := hr.1 wr.heap.size e.symm; exact absurd h1 HLO.out)).trans HL1.out
  refine hK.out _ _ (ps_of HC3N HM3.out HG.out HL3) (fun hHeld => ?_)
  clear hK K
  refine norm_ (a' := ?_) ?_ ?_
  rotate_left
  · show Act.put _ (some 45) _ = _
    simp only [Act.put, List.setIfInBounds_toArray, List.set_cons_zero, List.set_cons_succ, i64_w, i32_w, xu32_w, xu8_w]
    rfl
  refine last_ (i := 15) (N := none) #[true, true, true, true, true, true, true, true, true, true, true, true, true, true, true, true] rfl rfl (one_of HT_.out (by kernel_rfl)) (by decide) (fun K hK => ?_)
  obtain ⟨w4, hrun4, hM4, e1, e2, e3, e4, e5⟩ := HM3.out.put (P := Try.prog) Try.underlying60 Try.underlying9 s (.slice A3 (Qs.length + 1) c3)
  refine skip_ (w1 := w4) (by rfl) rfl (by first | (go_simp; done) | (go_simp; rfl)) ?_
  refine hK.out _ _ ?_
  clear hK K
  refine done_ (done_of HT_.out (by kernel_rfl)) ?_
  obtain ⟨hN4, hC4⟩ := turned HNr.out s (.slice A3 (Qs.length + 1) c3) (Qs ++ [x]) _ HC3.out HR3.out (by rw [List.length_append, List.length_singleton]; have e1 := HF.out; omega) (fun y hy => by
    rcases List.mem_append.1 hy with h | h
    · exact HSH.out y h
    · rw [List.mem_singleton.1 h]; exact HSHX.out) hM4 (fun t => by by_cases h : t = s <;> simp [h]) e1 e2 e3 e4 e5
  have HN4 := Aside0.mk hN4
  have HC4 := Aside0.mk hC4
  clear hN4 hC4 hM4 hrun4 e1 e2 e3 e4 e5
  go_wp2_with (fail)
  go_ret
  refine ⟨_, _, rfl, HN4.out, (Chg.of_below (fun _ => False) HB.out).trans HC4.out (fun _ _ e => e.elim) (fun _ _ e => e), fun k hk => ?_⟩
  have := HB.out.size
  unfold ownNew
  rw [if_neg (by omega)]
end
end Go.Proofs.Ytlnipfmgdkiboaa.N
/- The network by hand: Take. -/
namespace Go.Proofs.Ytlnipfmgdkiboaa.N
open Go.RowKit Go.Proofs.Ytlnipfmgdkiboaa.Q Go.Proofs.YtlnipfmgdkiboaaW.PrintWords Go.Proofs.YtlnipfmgdkiboaaW.PrintLast Go.Proofs.YtlnipfmgdkiboaaW.PrintMore
set_option linter.unusedVariables false
set_option linter.unusedSimpArgs false
def take.T6 : Bool × List (List Nat × List Nat) := (true, [([], []), ([], []), ([], []), ([1, 2], [1, 2]), ([0, 3], [0, 3]), ([], []), ([], []), ([6], [6]), ([5, 7], [5, 7]), ([4, 8, 4], [4, 8]), ([9, 9, 0, 1, 2, 3, 4, 5, 6, 7, 8, 9], [0, 9])])
def take.B6 : List Nat := [0, 0, 0, 6, 15, 0, 0, 64, 224, 511, 1023]
theorem take.tab6 : rtab .any (opsOf Try.f11 6) = take.T6 := by kernel_rfl
theorem take.bits6 : waitsOk take.T6.2 take.B6 = true := by kernel_rfl
theorem blk_frozen' {w : World} {g : Nat} {t : TypeId} {cs : Array Value} (h : w.heap[g]? = some (.cells cs t (0, 0))) (i : Nat) : w.frozen? ⟨g, i, none⟩ = false := blk_frozen h i
/-- Two variables in memory, one made behind a call. -/
theorem two_boxes {w w6 w1 w8 : World} {b6 b8 : Nat} (hx6 : w6.heap[b6]? = some (.cells #[.int .i64 0, .slice none 0 0] 34 (0, 0))) (h6 : Below w.heap.size w w6) (h1 : Below w6.heap.size w6 w1) (hg8 : b8 = w1.heap.size) (h8 : Below w1.heap.size w1 w8) (hx8 : w8.heap[b8]? = some (.cells #[.int .i64 0, .slice none 0 0] 34 (0, 0))) :
    w8.cell? ⟨b8, 0, none⟩ = some (.int .i64 0) ∧ w8.cell? ⟨b8, 1, none⟩ = some (.slice none 0 0) ∧ w8.frozen? ⟨b8, 0, none⟩ = false ∧ w8.frozen? ⟨b8, 1, none⟩ = false ∧
    (∀ u v, ((w8.setCell ⟨b8, 0, none⟩ u).setCell ⟨b8, 1, none⟩ v).cell? ⟨b6, 0, none⟩ = some (.int .i64 0)) ∧ (∀ u v, ((w8.setCell ⟨b8, 0, none⟩ u).setCell ⟨b8, 1, none⟩ v).cell? ⟨b6, 1, none⟩ = some (.slice none 0 0)) ∧
    (∀ u v, ((w8.setCell ⟨b8, 0, none⟩ u).setCell ⟨b8, 1, none⟩ v).frozen? ⟨b6, 0, none⟩ = false) ∧ (∀ u v, ((w8.setCell ⟨b8, 0, none⟩ u).setCell ⟨b8, 1, none⟩ v).frozen? ⟨b6, 1, none⟩ = false) := by
  have hlt : b6 < w6.heap.size := heap_lt hx6
  have hne : b6 ≠ b8 := by have := h1.size; omega
  have h68 : w8.heap[b6]? = some (.cells #[.int .i64 0, .slice none 0 0] 34 (0, 0)) := blk_below (blk_below hx6 h1) h8
  have hs : ∀ u v, ((w8.setCell ⟨b8, 0, none⟩ u).setCell ⟨b8, 1, none⟩ v).heap[b6]? = some (.cells #[.int .i64 0, .slice none 0 0] 34 (0, 0)) := fun u v => (Below.heap_setCell _ ⟨b8, 1, none⟩ _ b6 hne).trans ((Below.heap_setCell _ ⟨b8, 0, none⟩ _ b6 hne).trans h68)
  exact ⟨(blk_cell hx8 0).trans rfl, (blk_cell hx8 1).trans rfl, blk_frozen hx8 0, blk_frozen hx8 1, fun u v => (blk_cell (hs u v) 0).trans rfl, fun u v => (blk_cell (hs u v) 1).trans rfl, fun u v => blk_frozen (hs u v) 0, fun u v => blk_frozen (hs u v) 1⟩
section
variable {w : World} {N M : Nat} {room : Int} {B : Nat} {own : Nat → Option ByteArray} {G : ByteArray → Option Value} {Q : ByteArray → List S34}
set_option maxHeartbeats 1000000 in
set_option maxRecDepth 100000 in
theorem take_out (h : NetG w N M room B own G Q) (s : ByteArray) (i : Int) (hi : ¬(0 ≤ i ∧ i < (Q s).length)) :
    Calls Try.prog 11 #[.pointer (some ⟨N, 0, none⟩), .string s, .int .i64 i] w fun e w' => e = .returned (.tuple #[.agg #[.int .i64 0, .slice none 0 0], .int .i64 4]) ∧ Below w.heap.size w w' := by
  have HI := Aside0.mk hi
  clear hi
  have HH := Aside0.mk h
  clear h
  go_enter Try.func11, Try.ntmps11
  go_wp2_with (first
    | (go_at_call 28; (with_reducible refine (find_out (HH.out.below HB6.out) s i HI.out).mono ?_); rintro e w1 ⟨rfl, hb⟩; have HB1 := Aside0.mk hb; clear hb)
    | ((with_reducible refine gate_dst (N := 6) rfl ?_); refine box_event ?hg (N := 6) ?hd (cs := #[.int .i64 0, .slice none 0 0]) (t := 34) ?hr ?_; (case hd => rfl); (case hg => rfl); (case hr => first | (go_simp; done) | (go_simp; rfl)); intro b6 hg w6 hbox hb; have HG6 := Aside0.mk hg; have HB6 := Aside0.mk hb; have HX6 := Aside0.mk hbox; clear hg hb hbox)
    | ((with_reducible refine gate_dst (N := 8) rfl ?_); refine box_event ?hg (N := 8) ?hd (cs := #[.int .i64 0, .slice none 0 0]) (t := 34) ?hr ?_; (case hd => rfl); (case hg => rfl); (case hr => first | (go_simp; done) | (go_simp; rfl)); intro b8 hg w8 hbox hb; have HG8 := Aside0.mk hg; have HB8 := Aside0.mk hb; have HX8 := Aside0.mk hbox; clear hg hb hbox; obtain ⟨e0, e1, e2, e3, g0, g1, g2, g3⟩ := two_boxes HX6.out HB6.out HB1.out HG8.out HB8.out HX8.out))
  have hne : b6 ≠ b8 := by have h1 := heap_lt HX6.out; have h2 := HB1.out.size; have h3 := HG8.out; omega
  have hb1 : Below w.heap.size w w8 := below_step (below_step HB6.out HB1.out) HB8.out
  have hb2 : w.heap.size ≤ b6 := Nat.le_of_eq HG6.out.symm
  have hb3 : w.heap.size ≤ b8 := by rw [HG8.out]; exact Nat.le_trans HB6.out.size HB1.out.size
  have hx6 : w8.heap[b6]? = some (.cells #[.int .i64 0, .slice none 0 0] 34 (0, 0)) := blk_below (blk_below HX6.out HB1.out) HB8.out
  refine bodyPost_ret (results_ct rfl _ _ b6 34 #[.int .i64 0, .slice none 0 0] (0, 0) _ rfl (blk_put (cs := #[.int .i64 0, .slice none 0 0]) (blk_put (cs := #[.int .i64 0, .slice none 0 0]) ((Below.heap_setCell _ ⟨b8, 1, none⟩ _ b6 hne).trans ((Below.heap_setCell _ ⟨b8, 0, none⟩ _ b6 hne).trans hx6)) 0 _ rfl) 1 _ rfl) Try.underlying34 rfl (by kernel_rfl)) rfl ?_
  exact ⟨rfl, below_set (below_set (below_set (below_set hb1 hb3) hb3) hb2) hb2⟩
/-- What is left when a letter has been taken. -/
def Took (w : World) (N M : Nat) (room : Int) (B : Nat) (own : Nat → Option ByteArray) (s : ByteArray) (Q' : ByteArray → List S34) (x : S34) (e : Ending) (w' : World) : Prop :=
  ∃ own' G' A1 c1, e = .returned (.tuple #[.agg #[.int .i64 x.f0, .slice A1 x.f1.length c1], .int .i64 0]) ∧ NetG w' N M room B own' G' Q' ∧ Chg (fun k => k = M ∨ own k = some s) w w' ∧ (∀ k, k < w.heap.size → own' k = own k) ∧ k34.M w' B (fun k => own' k = some s) x [.int .i64 x.f0, .slice A1 x.f1.length c1] ∧ ∃ T : Nat → Prop, (∀ k, T k → own' k = some s) ∧ k34.M w' B T x [.int .i64 x.f0, .slice A1 x.f1.length c1] ∧ Kd.S k34 34 w' B (fun k => own' k = some s ∧ ¬ T k) ((G' s).getD (.slice none 0 0)) (Q' s)
theorem wpList_mapUpdate_run {P : Program} (w : World) {ops : Array Oper} {rest : List Oper} {o : Oper} {a : Act} {Q : Exit → Act → World → Prop}
    (hg : o.guard = none) (m x v : Operand) (t : TypeId) (hop : o.op = Op.mapUpdate t m x v) (M K V : Value) (hm : a.eval m = M) (hx : a.eval x = K) (hv : a.eval v = V) (w1 : World)
    (hrun : (Instr.mapUpdate t M K V).run P w = .ok () w1) (hK : wpList P ops Q rest (a.put o.dst undef) w1) : wpList P ops Q (o :: rest) a w := by
  refine wpList_plain hg fun K' hK' => ?_
  unfold Oper.wp
  simp [execOp, hop, hm, hx, hv, hrun, Result.andThen]
  exact hK' _ _ hK
theorem rows_take {α : Type} {R : α → List Value → Prop} {size : Nat} {w : World} {A : Option Addr} {xs : List α} {m : Nat} (h : ReadsRow R size w A xs.length xs) (hm : m ≤ xs.length) : ReadsRow R size w A m (xs.take m) := by
  have hl : (xs.take m).length = m := by rw [List.length_take]; omega
  refine ⟨hl, by have := h.2.1; omega, fun hp => ?_⟩
  obtain ⟨ad, e, hc⟩ := h.2.2 (by omega)
  refine ⟨ad, e, fun j p hj => hc j p ?_⟩
  rw [List.getElem?_take] at hj
  split at hj
  · exact hj
  · cases hj
theorem rows_drop {α : Type} {R : α → List Value → Prop} {size : Nat} {w : World} {A : Option Addr} {xs : List α} {m c : Nat} (h : ReadsRow R size w A xs.length xs) (hm : m ≤ xs.length) (hc : xs.length ≤ c) : ReadsRow R size w (if c = m then A else A.map (·.add (m * size))) (xs.length - m) (xs.drop m) := by
  refine ⟨List.length_drop, by have := h.2.1; omega, fun hp => ?_⟩
  obtain ⟨ad, rfl, hcell⟩ := h.2.2 (by omega)
  rw [if_neg (by omega)]
  refine ⟨ad.add (m * size), rfl, fun j p hj => ?_⟩
  rw [List.getElem?_drop] at hj
  obtain ⟨cs, h1, h2, h3⟩ := hcell (m + j) p hj
  refine ⟨cs, h1, h2, fun i u hu => ?_⟩
  rw [add_add, show m * size + (j * size + i) = (m + j) * size + i by rw [Nat.add_mul]; omega]
  exact h3 i u hu
theorem find_sep' (h : NetG w N M room B own G Q) (s : ByteArray) (i : Int) (h0 : 0 ≤ i) (h1 : i < (Q s).length) {f : Nat → Nat} (hf : (Kd.tag f k34).R 34 w B (fun k => own k = some s) ((G s).getD (.slice none 0 0)) (Q s).zipIdx) (x : S34) (hx : (Q s).getD i.toNat z34 = x) :
    Calls Try.prog 28 #[.pointer (some ⟨N, 0, none⟩), .string s, .int .i64 i] w fun e w' => ∃ A1 c1, e = .returned (.tuple #[.agg #[.int .i64 x.f0, .slice A1 x.f1.length c1], .int .i64 0]) ∧ k34.M w B (fun k => own k = some s ∧ f k = i.toNat) x [.int .i64 x.f0, .slice A1 x.f1.length c1] ∧ Below w.heap.size w w' := by
  subst hx
  exact find_sep h s i h0 h1 hf
theorem rows_mem {α : Type} {R : α → List Value → Prop} {size : Nat} {w : World} {A : Option Addr} {n : Nat} {xs : List α} (h : ReadsRow R size w A n xs) : ReadsRow (fun x c => R x c ∧ x ∈ xs) size w A n xs := by
  refine ⟨h.1, h.2.1, fun hp => ?_⟩
  obtain ⟨ad, rfl, hcell⟩ := h.2.2 hp
  refine ⟨ad, rfl, fun j p hj => ?_⟩
  obtain ⟨cs, h1, h2, h3⟩ := hcell j p hj
  exact ⟨cs, h1, ⟨h2, List.mem_of_getElem? hj⟩, h3⟩
theorem zip_take {α : Type} {xs : List α} {j : Nat} {p : α × Nat} (h : p ∈ xs.zipIdx.take j) : p.2 ≠ j := by
  obtain ⟨i, hi⟩ := List.getElem?_of_mem h
  rw [List.getElem?_take] at hi
  split at hi
  · rename_i hlt
    rw [List.getElem?_zipIdx] at hi
    obtain ⟨x, _, rfl⟩ := Option.map_eq_some_iff.1 hi
    show 0 + i ≠ j
    omega
  · cases hi
theorem zip_drop {α : Type} {xs : List α} {j : Nat} {p : α × Nat} (h : p ∈ xs.zipIdx.drop (j + 1)) : p.2 ≠ j := by
  obtain ⟨i, hi⟩ := List.getElem?_of_mem h
  rw [List.getElem?_drop, List.getElem?_zipIdx] at hi
  obtain ⟨x, _, rfl⟩ := Option.map_eq_some_iff.1 hi
  show 0 + (j + 1 + i) ≠ j
  omega
set_option maxHeartbeats 1000000 in
set_option maxRecDepth 100000 in
theorem take_calls (h : NetG w N M room B own G Q) (s : ByteArray) (j : Nat) (h1 : j < (Q s).length) (x : S34) (hx : (Q s).getD j z34 = x) :
    Calls Try.prog 11 #[.pointer (some ⟨N, 0, none⟩), .string s, .int .i64 j] w (Took w N M room B own s (setQ Q s ((Q s).take j ++ (Q s).drop (j + 1))) x) := by
  have HX := Aside0.mk (show (Q s).getD ((j : Int)).toNat z34 = x from hx)
  clear hx
  have HJ := Aside0.mk h1
  have HH := Aside0.mk h
  obtain ⟨f, hf⟩ := h.rows s
  have HTG := Aside0.mk hf
  clear h h1 hf
  obtain ⟨i34, hi34, hzz⟩ := Option.map_eq_some_iff.1 info34
  simp only [Prod.mk.injEq] at hzz
  obtain ⟨hz0, hz1, hz2⟩ := hzz
  have H34 := Aside0.mk hi34
  have HZ0 := Aside0.mk hz0
  have HZ1 := Aside0.mk hz1
  have HZ2 := Aside0.mk hz2
  clear hi34 hz0 hz1 hz2
  go_enter Try.func11, Try.ntmps11
  go_wp2_with (first
    | (go_at_call 28; (with_reducible refine (find_sep' (HH.out.below HB6.out) s (j : Int) (by omega) (by have := HJ.out; omega) (Kd.R_below HTG.out HB6.out) x HX.out).mono ?_); rintro e w1 ⟨A1, c1, rfl, hM, hb⟩; have HB1 := Aside0.mk hb; clear hb; have HM := Aside0.mk hM; clear hM)
    | ((with_reducible refine gate_dst (N := 6) rfl ?_); refine box_event ?hg (N := 6) ?hd (cs := #[.int .i64 0, .slice none 0 0]) (t := 34) ?hr ?_; (case hd => rfl); (case hg => rfl); (case hr => first | (go_simp; done) | (go_simp; rfl)); intro b6 hg w6 hbox hb; have HG6 := Aside0.mk hg; have HB6 := Aside0.mk hb; have HX6 := Aside0.mk hbox; clear hg hb hbox)
    | ((with_reducible refine gate_dst (N := 8) rfl ?_); refine box_event ?hg (N := 8) ?hd (cs := #[.int .i64 0, .slice none 0 0]) (t := 34) ?hr ?_; (case hd => rfl); (case hg => rfl); (case hr => first | (go_simp; done) | (go_simp; rfl)); intro b8 hg w8 hbox hb; have HG8 := Aside0.mk hg; have HB8 := Aside0.mk hb; have HX8 := Aside0.mk hbox; clear hg hb hbox; obtain ⟨e0, e1, e2, e3, g0, g1, g2, g3⟩ := two_boxes HX6.out HB6.out HB1.out HG8.out HB8.out HX8.out; have HN8 := (fun u v => (HH.out.below HB6.out).below (below_set (below_set (HB1.out.trans (HB8.out.mono HB1.out.size)) (by rw [HG8.out]; exact HB1.out.size) : Below w6.heap.size w6 (w8.setCell ⟨b8, 0, none⟩ u)) (by rw [HG8.out]; exact HB1.out.size) : Below w6.heap.size w6 ((w8.setCell ⟨b8, 0, none⟩ u).setCell ⟨b8, 1, none⟩ v))); obtain ⟨Ag, cg, hvg, hcg, _⟩ := Kd.R_reads ((HN8 undef undef).rrows s); have k1 := (fun u v => (HN8 u v).cell.2); have k2 := (fun u v => (HN8 u v).look s); rw [hvg] at k2; have HN8' := Aside0.mk HN8; have HVG := Aside0.mk hvg; have HCG := Aside0.mk hcg; clear HN8 hvg hcg)
    | ((with_reducible refine gate_dst (N := 31) rfl ?_); refine wpList_make_own _ rfl _ _ 29 rfl B 34 i34 (.agg #[.int .i64 0, .slice none 0 0]) 2 Try.underlying29 H34.out HZ0.out HZ1.out .i64 .i64 _ (Q s).length rfl rfl rfl ?b2 ?b3 ?b4 ?_; (case b2 => have q1 := HH.out.few s; have q2 := HH.out.room2; have q3 := HZ2.out; rw [q3]; omega); (case b3 => have q1 := HH.out.few s; have q2 := HH.out.room2; unfold maxLen; omega); (case b4 => exact Nat.le_trans (HH.out.baseM) (Nat.le_of_lt (HN8'.out _ _).map.lt)); intro w9 hown9 hg9; have HOWN9 := Aside0.mk hown9; have HG9 := Aside0.mk hg9; clear hown9 hg9))
  have W8s := Aside0.mk (show w8.heap.size = ((w8.setCell ⟨b8, 0, none⟩ (.int .i64 x.f0)).setCell ⟨b8, 1, none⟩ (.slice A1 x.f1.length c1)).heap.size by simp [World.setCell])
  rw [W8s.out]
  have hb68 : Below w6.heap.size w6 ((w8.setCell ⟨b8, 0, none⟩ (.int .i64 x.f0)).setCell ⟨b8, 1, none⟩ (.slice A1 x.f1.length c1)) := below_set (below_set (HB1.out.trans (HB8.out.mono HB1.out.size)) (by rw [HG8.out]; exact HB1.out.size)) (by rw [HG8.out]; exact HB1.out.size)
  have HN := Aside0.mk (HN8'.out (.int .i64 x.f0) (.slice A1 x.f1.length c1))
  have HM8 := Aside0.mk (Kd.M_below HM.out hb68)
  have HWW := Aside0.mk (below_step HB6.out hb68)
  have hne : b6 ≠ b8 := by have h1 := heap_lt HX6.out; have h2 := HB1.out.size; have h3 := HG8.out; omega
  have HNE := Aside0.mk hne
  have HY8 := Aside0.mk (blk_put (cs' := #[.int .i64 x.f0, .slice A1 x.f1.length c1]) (blk_put (cs' := #[.int .i64 x.f0, .slice none 0 0]) HX8.out 0 (.int .i64 x.f0) rfl) 1 (.slice A1 x.f1.length c1) rfl)
  have HY6 := Aside0.mk (blk_below HX6.out hb68)
  have HL6 := Aside0.mk (show w.heap.size ≤ b6 from Nat.le_of_eq HG6.out.symm)
  have HL8 := Aside0.mk (show w.heap.size ≤ b8 by rw [HG8.out]; exact Nat.le_trans HB6.out.size HB1.out.size)
  clear e0 e1 e2 e3 g0 g1 g2 g3 k1 k2 hb68 hne HN8' HX6 HX8 HM W8s
  generalize ((w8.setCell ⟨b8, 0, none⟩ (.int .i64 x.f0)).setCell ⟨b8, 1, none⟩ (.slice A1 x.f1.length c1)) = W8 at *
  -- the row that is read, and the one that is made
  have hrw := HN.out.rrows s
  have hrt := Kd.R_below HTG.out HWW.out
  rw [HVG.out] at hrw hrt
  clear HTG
  have HFEW := Aside0.mk (HN.out.few s)
  have HSH := Aside0.mk (HN.out.short s)
  generalize hQe : Q s = Qs at *
  have HQE := Aside0.mk hQe
  clear hQe
  obtain ⟨g, hAg⟩ : ∃ g, Ag = some ⟨g, 0, none⟩ := by
    obtain ⟨g, c, e, _⟩ := Kd.R_form hrw (by have := HJ.out; omega)
    injection e with e1 _ _
    exact ⟨g, e1⟩
  subst hAg
  have HOG := Aside0.mk (hrw.1 g (by simp [Value.ownBlock]))
  obtain ⟨Ar, cr, hre, _, hrd⟩ := OwnRow.reads hrt.2
  injection hre with hr1 hrn hr2
  clear hrn
  subst hr1 hr2
  have HRD := Aside0.mk hrd
  clear hrd hrw hrt
  have HZL := Aside0.mk (show Qs.zipIdx.length = Qs.length from List.length_zipIdx)
  have HLT := Aside0.mk (HN.out.lt)
  have hcut1 := cut_to (P := Try.prog) 29 34 .i64 Try.underlying29 H34.out (some ⟨g, 0, none⟩) Qs.length cg (j : Int) (by omega) (by have := HJ.out; omega) HCG.out
  have hcut2 := cut_from (P := Try.prog) 29 34 .i64 Try.underlying29 H34.out 2 HZ1.out (some ⟨g, 0, none⟩) Qs.length cg ((j : Int) + 1) (by omega) (by have := HJ.out; omega)
  have hwr : wrap64 ((j : Int) + 1) = (j : Int) + 1 := wrap64_self (by omega) (by have h1 := HJ.out; have h2 := HFEW.out; have h3 := HN.out.room2; omega)
  have ht1 : ((j : Int) + 1).toNat = j + 1 := by omega
  rw [Int.toNat_natCast] at hcut1
  rw [ht1] at hcut2
  have HTK := Aside0.mk (rows_mem (rows_take (m := j) HRD.out (by have h1 := HZL.out; have h2 := HJ.out; omega)))
  have HDR := Aside0.mk (rows_mem (rows_drop (m := j + 1) HRD.out (by have h1 := HZL.out; have h2 := HJ.out; omega) (by have h1 := HZL.out; have h2 := HCG.out; omega)))
  have hk34 : (Kd.tag f k34).sz = 2 := rfl
  rw [hk34, HZL.out] at HDR
  generalize hA2 : (if cg = j + 1 then (some (⟨g, 0, none⟩ : Addr)) else (some (⟨g, 0, none⟩ : Addr)).map (·.add ((j + 1) * 2))) = A2 at *
  clear hA2 hk34 ht1
  refine start_ (n := 11) (S := fun w' => True) (ds := []) #[false, false, false, false, false, false, false, false, false, false, false] (by kernel_rfl) rfl rfl trivial (fun hHeld => ?_); refine with_tabW take.tab6 take.bits6 (fun HT_ HW_ => ?_)
  have HB9 := Aside0.mk (show Below W8.heap.size W8 w9.drew from below_drew1 ⟨HG9.out.os, HG9.out.tape, HG9.out.output, HG9.out.size, fun k hk => HG9.out.block k hk (by simp)⟩)
  have HOWN9' := Aside0.mk (show w9.drew.ownsRow B 34 2 (.slice (some ⟨W8.heap.size, 0, none⟩) 0 Qs.length) 0 [] from HOWN9.out)
  have HBS := Aside0.mk (show B ≤ W8.heap.size from Nat.le_trans HN.out.baseM (Nat.le_of_lt HN.out.map.lt))
  clear HOWN9 HG9
  generalize w9.drew = W9 at *
  have HOWN9 := HOWN9'
  clear HOWN9'
  refine pure_ (i := 0) (N := some 32) (v := ?_) (a' := ?_) #[true, false, false, false, false, false, false, false, false, false, false] rfl rfl (any_of HT_.out (by kernel_rfl)) (fun _ _ _ h => h) (Or.inl ⟨by rfl, ?_⟩) ?_ ?_
  rotate_left
  · intro w'
    go_simp
    with_reducible rfl
  rotate_left
  · simp only [Act.put, List.setIfInBounds_toArray, List.set_cons_zero, List.set_cons_succ, i64_w, i32_w, xu32_w, xu8_w]
    rfl
  refine pure_ (i := 1) (N := some 33) (v := ?_) (a' := ?_) #[true, true, false, false, false, false, false, false, false, false, false] rfl rfl (any_of HT_.out (by kernel_rfl)) (fun _ _ _ h => h) (Or.inl ⟨by rfl, ?_⟩) ?_ ?_
  rotate_left
  · intro w'
    go_simp
    with_reducible rfl
  rotate_left
  · simp only [Act.put, List.setIfInBounds_toArray, List.set_cons_zero, List.set_cons_succ, i64_w, i32_w, xu32_w, xu8_w]
    rfl
  refine pure_ (i := 2) (N := some 34) (v := ?_) (a' := ?_) #[true, true, true, false, false, false, false, false, false, false, false] rfl rfl (any_of HT_.out (by kernel_rfl)) (fun _ _ _ h => h) (Or.inl ⟨by rfl, ?_⟩) ?_ ?_
  rotate_left
  · intro w'
    go_simp
    with_reducible rfl
  rotate_left
  · simp only [Act.put, List.setIfInBounds_toArray, List.set_cons_zero, List.set_cons_succ, i64_w, i32_w, xu32_w, xu8_w]
    rfl
  refine pure_ (i := 3) (N := some 35) (v := ?_) (a' := ?_) #[true, true, true, true, false, false, false, false, false, false, false] rfl rfl (any_of HT_.out (by kernel_rfl)) (fun _ _ _ h => h) (Or.inl ⟨by rfl, ?_⟩) ?_ ?_
  rotate_left
  · intro w'
    go_simp
    with_reducible rfl
  rotate_left
  · simp only [Act.put, List.setIfInBounds_toArray, List.set_cons_zero, List.set_cons_succ, i64_w, i32_w, xu32_w, xu8_w]
    rfl
  refine pure_ (i := 5) (N := some 37) (v := ?_) (a' := ?_) #[true, true, true, true, false, true, false, false, false, false, false] rfl rfl (any_of HT_.out (by kernel_rfl)) (fun _ _ _ h => h) (Or.inl ⟨by rfl, ?_⟩) ?_ ?_
  rotate_left
  · intro w'
    go_simp
    with_reducible rfl
  rotate_left
  · simp only [Act.put, List.setIfInBounds_toArray, List.set_cons_zero, List.set_cons_succ, i64_w, i32_w, xu32_w, xu8_w]
    rfl
  refine pure_ (i := 6) (N := some 38) (v := ?_) (a' := ?_) #[true, true, true, true, false, true, true, false, false, false, false] rfl rfl (any_of HT_.out (by kernel_rfl)) (fun _ _ _ h => h) (Or.inl ⟨by rfl, ?_⟩) ?_ ?_
  rotate_left
  · intro w'
    go_simp
    with_reducible rfl
  rotate_left
  · simp only [Act.put, List.setIfInBounds_toArray, List.set_cons_zero, List.set_cons_succ, i64_w, i32_w, xu32_w, xu8_w]
    rfl
  refine pure_ (i := 7) (N := some 39) (v := ?_) (a' := ?_) #[true, true, true, true, false, true, true, true, false, false, false] rfl rfl (any_of HT_.out (by kernel_rfl)) (fun _ _ _ h => h) (Or.inl ⟨by rfl, ?_⟩) ?_ ?_
  rotate_left
  · intro w'
    go_simp
    with_reducible rfl
  rotate_left
  · simp only [Act.put, List.setIfInBounds_toArray, List.set_cons_zero, List.set_cons_succ, i64_w, i32_w, xu32_w, xu8_w]
    rfl
  refine pure_ (i := 8) (N := some 40) (v := ?_) (a' := ?_) #[true, true, true, true, false, true, true, true, true, false, false] rfl rfl (any_of HT_.out (by kernel_rfl)) (fun _ _ _ h => h) (Or.inl ⟨by rfl, ?_⟩) ?_ ?_
  rotate_left
  · intro w'
    go_simp
    with_reducible rfl
  rotate_left
  · simp only [Act.put, List.setIfInBounds_toArray, List.set_cons_zero, List.set_cons_succ, i64_w, i32_w, xu32_w, xu8_w]
    rfl
  refine one_ (i := 4) (N := some 36) #[true, true, true, true, true, true, true, true, true, false, false] rfl rfl (one_of HT_.out (by kernel_rfl)) (by decide) (fun K hK => ?_)
  refine Kd.R_append_rows_step (Kd.tag f k34) (Rr := fun p c => (Kd.tag f k34).M W8 B (fun k => own k = some s ∧ some k ≠ (Value.slice (some ⟨g, 0, none⟩) Qs.length cg).ownBlock) p c ∧ p ∈ Qs.zipIdx.take j) (w0 := W9) B (by rfl) (.tmp 32) (.tmp 35) 29 34 (.agg #[.int .i64 0, .slice none 0 0]) 32 rfl Try.underlying29 info34 rfl (show 0 < 2 by decide) (by omega) (.slice (some ⟨W8.heap.size, 0, none⟩) 0 Qs.length) [] (Qs.zipIdx.take j) (some ⟨g, 0, none⟩) j cg (fun k => (own k = some s ∧ f k ≠ j) ∨ W8.heap.size ≤ k) (fun k => own k = some s ∧ f k ≠ j) rfl rfl ?aO ?aR ?aM ?aK ?aF ?aB ?aS ?aL ?_
  (case aO => exact ⟨fun k hk => .inr (by simp only [Value.ownBlock, Option.map_some, Option.some.injEq] at hk; omega), [], HOWN9.out, Reps.none _ _⟩)
  (case aR => exact ReadsRow.imp_ HTK.out HB9.out (fun _ _ hp => hp))
  (case aM => exact fun y cs hp => k34.M_mono (fun k hk => ⟨⟨hk.1.1, by rw [hk.2]; exact zip_take hp.2⟩, hk.2⟩) (Kd.M_below (d := k34) hp.1 HB9.out))
  (case aK => exact fun k hk => ⟨.inl hk, fun e => by simp only [Value.ownBlock, Option.map_some, Option.some.injEq] at e; have := (HLT.out k s hk.1).2; omega⟩)
  (case aF => exact fun k hk => .inr (Nat.le_trans HB9.out.size hk))
  (case aB => exact Below.refl _ _)
  (case aS => exact Nat.le_trans HBS.out HB9.out.size)
  (case aL => have h1 := HJ.out; have h2 := HFEW.out; have h3 := HN.out.room2; simp only [List.length_nil]; omega)
  intro v10 w10 ho hbB hg hat
  obtain ⟨A10, c10, rfl⟩ := Kd.R_slice ho
  rw [List.nil_append] at ho hat ⊢
  rw [show (Qs.zipIdx.take j).length = j by rw [List.length_take]; have h1 := HZL.out; have h2 := HJ.out; omega] at ho hat ⊢
  have HV10 := Aside0.mk (show ∀ k, (Value.slice A10 j c10).ownBlock = some k → W8.heap.size ≤ k from fun k hk => by
    rcases hat with e | ⟨b, e, hb⟩
    · rw [e] at hk; simp only [Value.ownBlock, Option.map_some, Option.some.injEq] at hk; omega
    · rw [e] at hk; injection hk with hk; have := HB9.out.size; omega)
  have HB10 := Aside0.mk (HB9.out.trans ⟨hg.os, hg.tape, hg.output, hg.size, fun k hk => hg.block k (Nat.lt_of_lt_of_le hk HB9.out.size) (fun e => by simp only [Value.ownBlock, Option.map_some, Option.some.injEq] at e; omega)⟩)
  have HR10 := Aside0.mk ho
  clear ho hbB hg hat
  refine hK.out _ _ trivial (fun hHeld => ?_)
  clear hK K
  refine norm_ (a' := ?_) ?_ ?_
  rotate_left
  · show Act.put _ (some 36) _ = _
    simp only [Act.put, List.setIfInBounds_toArray, List.set_cons_zero, List.set_cons_succ, i64_w, i32_w, xu32_w, xu8_w]
    rfl
  refine one_ (i := 9) (N := some 41) #[true, true, true, true, true, true, true, true, true, true, false] rfl rfl (one_of HT_.out (by kernel_rfl)) (by decide) (fun K hK => ?_)
  refine Kd.R_append_rows_step (Kd.tag f k34) (Rr := fun p c => (Kd.tag f k34).M W8 B (fun k => own k = some s ∧ some k ≠ (Value.slice (some ⟨g, 0, none⟩) Qs.length cg).ownBlock) p c ∧ p ∈ Qs.zipIdx.drop (j + 1)) (w0 := w10) B (by rfl) (.tmp 36) (.tmp 40) 29 34 (.agg #[.int .i64 0, .slice none 0 0]) 32 rfl Try.underlying29 info34 rfl (show 0 < 2 by decide) (by omega) (.slice A10 j c10) (Qs.zipIdx.take j) (Qs.zipIdx.drop (j + 1)) A2 (Qs.length - (j + 1)) (cg - (j + 1)) (fun k => (own k = some s ∧ f k ≠ j) ∨ W8.heap.size ≤ k) (fun k => own k = some s ∧ f k ≠ j) rfl rfl ?aO ?aR ?aM ?aK ?aF ?aB ?aS ?aL ?_
  (case aO => exact HR10.out)
  (case aR => exact ReadsRow.imp_ HDR.out HB10.out (fun _ _ hp => hp))
  (case aM => exact fun y cs hp => k34.M_mono (fun k hk => ⟨⟨hk.1.1, by rw [hk.2]; exact zip_drop hp.2⟩, hk.2⟩) (Kd.M_below (d := k34) hp.1 HB10.out))
  (case aK => exact fun k hk => ⟨.inl hk, fun e => by have h1 := HV10.out k e.symm; have := (HLT.out k s hk.1).2; omega⟩)
  (case aF => exact fun k hk => .inr (Nat.le_trans HB10.out.size hk))
  (case aB => exact Below.refl _ _)
  (case aS => exact Nat.le_trans HBS.out HB10.out.size)
  (case aL => have h1 := HJ.out; have h2 := HFEW.out; have h3 := HN.out.room2; rw [List.length_take]; have h4 := HZL.out; omega)
  intro v11 w11 ho hbB hg hat
  obtain ⟨A11, c11, rfl⟩ := Kd.R_slice ho
  rw [show (Qs.zipIdx.take j ++ Qs.zipIdx.drop (j + 1)).length = Qs.length - 1 by rw [List.length_append, List.length_take, List.length_drop]; have h1 := HZL.out; have h2 := HJ.out; omega] at ho hat ⊢
  have HB11 := Aside0.mk (HB10.out.trans ⟨hg.os, hg.tape, hg.output, hg.size, fun k hk => hg.block k (Nat.lt_of_lt_of_le hk HB10.out.size) (fun e => by have := HV10.out k e.symm; omega)⟩)
  have hoS := Kd.S_erase (d := k34) (xs := Qs) (k := j) (by rw [List.eraseIdx_eq_take_drop_succ]; exact ho)
  rw [List.eraseIdx_eq_take_drop_succ] at hoS
  have HR11 := Aside0.mk hoS
  clear ho hoS hbB hg hat
  refine hK.out _ _ trivial (fun hHeld => ?_)
  clear hK K
  refine norm_ (a' := ?_) ?_ ?_
  rotate_left
  · show Act.put _ (some 41) _ = _
    simp only [Act.put, List.setIfInBounds_toArray, List.set_cons_zero, List.set_cons_succ, i64_w, i32_w, xu32_w, xu8_w]
    rfl
  refine pure_ (i := 10) (N := some 11) (v := ?_) (a' := ?_) #[true, true, true, true, true, true, true, true, true, true, true] rfl rfl (any_of HT_.out (by kernel_rfl)) (fun _ _ _ h => h) (Or.inl ⟨by rfl, ?_⟩) ?_ ?_
  rotate_left
  · intro w'
    go_simp
    with_reducible rfl
  rotate_left
  · simp only [Act.put, List.setIfInBounds_toArray, List.set_cons_zero, List.set_cons_succ, i64_w, i32_w, xu32_w, xu8_w]
    rfl
  refine done_ (done_of HT_.out (by kernel_rfl)) ?_
  have HN11 := Aside0.mk (HN.out.below HB11.out)
  obtain ⟨w12, hrun12, hM12, a1, a2, a3, a4, a5⟩ := HN11.out.map.put (P := Try.prog) Try.underlying60 Try.underlying9 s (.slice A11 (Qs.length - 1) c11)
  have n1 := HN11.out.cell.2
  have hl11 : (((Qs.take j ++ Qs.drop (j + 1)).length : Nat) : Int) ≤ room := by
    have h1 := HFEW.out
    have h2 := HJ.out
    rw [List.length_append, List.length_take, List.length_drop]
    omega
  have hs11 : ∀ y ∈ Qs.take j ++ Qs.drop (j + 1), y.f1.length < 140737488355328 := fun y hy => by
    rcases List.mem_append.1 hy with h | h
    · exact HSH.out y (List.mem_of_mem_take h)
    · exact HSH.out y (List.mem_of_mem_drop h)
  have HMA := Aside0.mk hM12
  have HE5 := Aside0.mk a5
  have HE := Aside0.mk (And.intro a1 (And.intro a2 (And.intro a3 a4)))
  have HL11 := Aside0.mk hl11
  have HS11 := Aside0.mk hs11
  have hMl := HN.out.map.lt
  have HMN := Aside0.mk (show N ≠ M from HN.out.ne)
  have HM6 := Aside0.mk (show b6 ≠ M from fun e => by have := HL6.out; have h1 := HH.out.map.lt; omega)
  have HM8' := Aside0.mk (show b8 ≠ M from fun e => by have := HL8.out; have h1 := HH.out.map.lt; omega)
  have HC12 := Aside0.mk ((HE5.out N HMN.out).trans HN11.out.cells)
  have HY8_12 := Aside0.mk ((HE5.out b8 HM8'.out).trans (blk_below HY8.out HB11.out))
  have HY6_12 := Aside0.mk ((HE5.out b6 HM6.out).trans (blk_below HY6.out HB11.out))
  clear hM12 a1 a2 a3 a4 a5 hl11 hs11 hMl
  have fin : ∀ (w4 : World) (G' : ByteArray → Option Value) (v2 : Value), Kd.S k34 34 w11 B (fun k => (own k = some s ∧ f k ≠ j) ∨ W8.heap.size ≤ k) v2 (Qs.take j ++ Qs.drop (j + 1)) → MapF w4 M G' → (∀ t, (G' t).getD (.slice none 0 0) = if t = s then v2 else (G t).getD (.slice none 0 0)) → w4.os = w11.os → w4.tape = w11.tape → w4.output = w11.output → w4.heap.size = w11.heap.size → (∀ k, k ≠ M → w4.heap[k]? = w11.heap[k]?) →
      Took w N M room B own s (setQ Q s (Qs.take j ++ Qs.drop (j + 1))) x (.returned (.tuple #[.agg #[.int .i64 x.f0, .slice A1 x.f1.length c1], .int .i64 0])) ((w4.setCell ⟨b6, 0, none⟩ (.int .i64 x.f0)).setCell ⟨b6, 1, none⟩ (.slice A1 x.f1.length c1)) := by
    intro w4 G' v2 hR hm hG d1 d2 d3 d4 d5
    obtain ⟨hN4, hC4⟩ := turned HN.out s v2 _ G' (Chg.of_below _ HB11.out) (Kd.S_mono hR (fun k hk => hk.imp (fun e => e.1) id)) HL11.out HS11.out hm hG d1 d2 d3 d4 d5
    have hsz : ((w4.setCell ⟨b6, 0, none⟩ (.int .i64 x.f0)).setCell ⟨b6, 1, none⟩ (.slice A1 x.f1.length c1)).heap.size = w4.heap.size := by simp [World.setCell]
    have hfar : ∀ k, k ≠ b6 → ((w4.setCell ⟨b6, 0, none⟩ (.int .i64 x.f0)).setCell ⟨b6, 1, none⟩ (.slice A1 x.f1.length c1)).heap[k]? = w4.heap[k]? := fun k hk => (Below.heap_setCell _ ⟨b6, 1, none⟩ _ k hk).trans (Below.heap_setCell _ ⟨b6, 0, none⟩ _ k hk)
    have hold : ∀ k, k < w.heap.size → ownNew own s W8.heap.size w4.heap.size k = own k := fun k hk => by
      have := HWW.out.size
      unfold ownNew
      rw [if_neg (by omega)]
    have hb6o : ownNew own s W8.heap.size w4.heap.size b6 = none := by
      have h1 : b6 < W8.heap.size := heap_lt HY6.out
      unfold ownNew
      rw [if_neg (by omega)]
      cases ho : own b6 with
      | none => rfl
      | some t => have := (HH.out.lt b6 t ho).2; have := HL6.out; omega
    have hb6n : b6 ≠ N := fun e => by have h1 := heap_lt HH.out.cells; have := HL6.out; omega
    refine ⟨_, _, A1, c1, rfl, hN4.move (Nat.le_of_eq hsz.symm) (fun k hk e => hfar k (fun e' => ?_)), ⟨hC4.os.trans HWW.out.os, hC4.tape.trans HWW.out.tape, hC4.output.trans HWW.out.output, by rw [hsz]; exact Nat.le_trans HWW.out.size hC4.size, fun k hk hn => ?_, fun k cells hk => by rw [hfar k (fun e => by have := HL6.out; have := heap_lt hk; omega), hC4.five k cells ((HWW.out.block k (heap_lt hk)).trans hk)]; exact HWW.out.block k (heap_lt hk)⟩, hold, ?_, fun k => own k = some s ∧ f k = j ∧ k < W8.heap.size, fun k hk => ?_, ?_, ?_⟩
    · subst e'
      rcases e with e | e | e
      · exact hb6n e
      · exact HM6.out e
      · exact e hb6o
    · rw [hfar k (fun e => by have := HL6.out; omega), hC4.block k (Nat.lt_of_lt_of_le hk HWW.out.size) hn]
      exact HWW.out.block k hk
    · have h1 : k34.M w11 B (fun k => own k = some s) x [.int .i64 x.f0, .slice A1 x.f1.length c1] := k34.M_mono (fun k hk => hk.1) (Kd.M_below HM8.out HB11.out)
      have h2 := k34.M_mono (fun k hk => (⟨hk, (HH.out.lt k s hk).2⟩ : own k = some s ∧ k < w.heap.size)) h1
      refine k34.M_mono (fun k hk => (hold k hk.2).trans hk.1) (Kd.M_step h2 (fun k hk _ => ?_))
      rw [hfar k (fun e => by have := HL6.out; have := hk.2; omega)]
      exact d5 k (fun e => by subst e; have := hk.1; rw [HH.out.notM] at this; cases this)
    · exact (hold k (HH.out.lt k s hk.1).2).trans hk.1
    · have h1 := Kd.M_below HM8.out HB11.out
      have h2 := k34.M_mono (fun k hk => (⟨hk, (HH.out.lt k s hk.1).2⟩ : (own k = some s ∧ f k = ((j : Int)).toNat) ∧ k < w.heap.size)) h1
      refine k34.M_mono (fun k hk => ⟨hk.1.1, by rw [hk.1.2, Int.toNat_natCast], Nat.lt_of_lt_of_le hk.2 HWW.out.size⟩) (Kd.M_step h2 (fun k hk _ => ?_))
      rw [hfar k (fun e => by have := HL6.out; have := hk.2; omega)]
      exact d5 k (fun e => by subst e; have := hk.1.1; rw [HH.out.notM] at this; cases this)
    · rw [hG s, if_pos rfl, setQ_self]
      have h3 := Kd.S_step (w1 := w4) (Kd.S_bound hR) (fun k hk _ => d5 k (fun e => by
        subst e
        rcases hk.1 with h | h
        · have := h.1; rw [HH.out.notM] at this; cases this
        · have := HN.out.map.lt; omega))
      have hb6w : b6 < W8.heap.size := heap_lt HY6.out
      have h4 := Kd.S_step (w1 := ((w4.setCell ⟨b6, 0, none⟩ (.int .i64 x.f0)).setCell ⟨b6, 1, none⟩ (.slice A1 x.f1.length c1))) h3 (fun k hk _ => hfar k (fun e => by
        subst e
        rcases hk.1 with h | h
        · have := (HH.out.lt k s h.1).2; have := HL6.out; omega
        · omega))
      refine Kd.S_mono h4 (fun k hk => ?_)
      have hk3 := hk.2.2.1
      rcases hk.1 with h | h
      · exact ⟨(hold k (HH.out.lt k s h.1).2).trans h.1, fun e => h.2 e.2.1⟩
      · refine ⟨?_, fun e => by have := e.2.2; omega⟩
        unfold ownNew
        rw [if_pos ⟨h, by rw [d4]; exact hk3⟩]
  have FIN := Aside0.mk fin
  clear fin hcut1 hcut2 hwr
  by_cases hq : Qs.length = 1
  · have hm0 : Qs.length - 1 = 0 := by omega
    have HQ0 := Aside0.mk hq
    rw [hm0] at hrun12 HMA ⊢
    obtain ⟨w13, hrun13, hM13, b1, b2, b3, b4, b5⟩ := HMA.out.drop (P := Try.prog) (ty := 0) Try.underlying60 Try.underlying9 s
    have n2 : w12.cell? ⟨N, 1, none⟩ = some (.map (some M)) := (blk_cell HC12.out 1).trans rfl
    have y0 : w13.cell? ⟨b8, 0, none⟩ = some (.int .i64 x.f0) := (blk_cell ((b5 b8 HM8'.out).trans HY8_12.out) 0).trans rfl
    have y1 : w13.cell? ⟨b8, 1, none⟩ = some (.slice A1 x.f1.length c1) := (blk_cell ((b5 b8 HM8'.out).trans HY8_12.out) 1).trans rfl
    have hz6 := (b5 b6 HM6.out).trans HY6_12.out
    have z0 : w13.cell? ⟨b6, 0, none⟩ = some (.int .i64 0) := (blk_cell hz6 0).trans rfl
    have z1 : w13.cell? ⟨b6, 1, none⟩ = some (.slice none 0 0) := (blk_cell hz6 1).trans rfl
    have f0 := blk_frozen hz6 0
    have f1 := blk_frozen hz6 1
    have HZ6 := Aside0.mk hz6
    have HM13 := Aside0.mk hM13
    have HB5 := Aside0.mk b5
    have HBE := Aside0.mk (And.intro b1 (And.intro b2 (And.intro b3 b4)))
    clear hz6 hM13 b1 b2 b3 b4 b5 hq hm0
    go_wp2_with (at_mapUpdate; refine wpList_mapUpdate_run _ rfl (.tmp 45) (.tmp 46) (.tmp 47) 60 rfl _ _ _ rfl rfl rfl _ hrun12 ?_)
    refine bodyPost_ret (results_ct rfl _ _ b6 34 #[.int .i64 x.f0, .slice A1 x.f1.length c1] (0, 0) _ rfl (blk_put (cs := #[.int .i64 x.f0, .slice none 0 0]) (blk_put (cs := #[.int .i64 0, .slice none 0 0]) HZ6.out 0 _ rfl) 1 _ rfl) Try.underlying34 rfl (by kernel_rfl)) rfl ?_
    have hnil : Qs.take j ++ Qs.drop (j + 1) = [] := List.eq_nil_of_length_eq_zero (by have h1 := HQ0.out; have h2 := HJ.out; rw [List.length_append, List.length_take, List.length_drop]; omega)
    exact FIN.out w13 _ (.slice none 0 0) (by rw [hnil]; exact Kd.S_nil _ _ _ _ _) HM13.out (fun t => by by_cases h : t = s <;> simp [h]) (HBE.out.1.trans HE.out.1) (HBE.out.2.1.trans HE.out.2.1) (HBE.out.2.2.1.trans HE.out.2.2.1) (HBE.out.2.2.2.trans HE.out.2.2.2) (fun k hk => (HB5.out k hk).trans (HE5.out k hk))
  · have hmi : ¬ ((Qs.length - 1 : Nat) : Int) = 0 := by have := HJ.out; omega
    have HR' := HR11
    generalize Qs.length - 1 = m at *
    have y0 : w12.cell? ⟨b8, 0, none⟩ = some (.int .i64 x.f0) := (blk_cell HY8_12.out 0).trans rfl
    have y1 : w12.cell? ⟨b8, 1, none⟩ = some (.slice A1 x.f1.length c1) := (blk_cell HY8_12.out 1).trans rfl
    have z0 : w12.cell? ⟨b6, 0, none⟩ = some (.int .i64 0) := (blk_cell HY6_12.out 0).trans rfl
    have z1 : w12.cell? ⟨b6, 1, none⟩ = some (.slice none 0 0) := (blk_cell HY6_12.out 1).trans rfl
    have f0 := blk_frozen HY6_12.out 0
    have f1 := blk_frozen HY6_12.out 1
    clear hq
    go_wp2_with (at_mapUpdate; refine wpList_mapUpdate_run _ rfl (.tmp 45) (.tmp 46) (.tmp 47) 60 rfl _ _ _ rfl rfl rfl _ hrun12 ?_)
    refine bodyPost_ret (results_ct rfl _ _ b6 34 #[.int .i64 x.f0, .slice A1 x.f1.length c1] (0, 0) _ rfl (blk_put (cs := #[.int .i64 x.f0, .slice none 0 0]) (blk_put (cs := #[.int .i64 0, .slice none 0 0]) HY6_12.out 0 _ rfl) 1 _ rfl) Try.underlying34 rfl (by kernel_rfl)) rfl ?_
    exact FIN.out w12 _ (.slice A11 m c11) HR11.out HMA.out (fun t => by by_cases h : t = s <;> simp [h]) HE.out.1 HE.out.2.1 HE.out.2.2.1 HE.out.2.2.2 HE5.out
end
end Go.Proofs.Ytlnipfmgdkiboaa.N
/- The network by hand: the chapter's example. -/
namespace Go.Proofs.Ytlnipfmgdkiboaa.N
open Go.RowKit Go.Proofs.Ytlnipfmgdkiboaa.Q Go.Proofs.YtlnipfmgdkiboaaW.PrintWords Go.Proofs.YtlnipfmgdkiboaaW.PrintLast Go.Proofs.YtlnipfmgdkiboaaW.PrintMore
set_option linter.unusedVariables false
set_option linter.unusedSimpArgs false
def three : List S34 := [⟨1, []⟩, ⟨2, []⟩, ⟨3, []⟩]
theorem lit3 {w : World} {g : Nat} (h : w.heap[g]? = some (.cells #[.int .i64 1, .slice none 0 0, .int .i64 2, .slice none 0 0, .int .i64 3, .slice none 0 0] 34 (0, 0))) : Kd.C k34 w (some ⟨g, 0, none⟩) three.length three := by
  refine ⟨rfl, by decide, fun _ => ⟨⟨g, 0, none⟩, rfl, fun j p hj => ⟨[.int .i64 p.f0, .slice none 0 0], rfl, ?_, fun i u hi => ?_⟩⟩⟩
  · have hp : p.f1 = [] := by
      match j, hj with
      | 0, hj => cases hj; rfl
      | 1, hj => cases hj; rfl
      | 2, hj => cases hj; rfl
    have := k34_mk w p (A1 := none) (c1 := 0) (by rw [hp]; exact Nat.le_refl _) (by rw [hp]; exact ⟨rfl, by decide, fun h => by simp at h⟩)
    rw [hp] at this
    exact this
  · have hc : ∀ q, w.cell? ⟨g, q, none⟩ = #[Value.int .i64 1, .slice none 0 0, .int .i64 2, .slice none 0 0, .int .i64 3, .slice none 0 0][q]? := blk_cell h
    rcases i with _ | _ | i
    · cases hi
      match j, hj with
      | 0, hj => cases hj; exact hc 0
      | 1, hj => cases hj; exact hc 2
      | 2, hj => cases hj; exact hc 4
    · cases hi
      match j, hj with
      | 0, hj => exact hc 1
      | 1, hj => exact hc 3
      | 2, hj => exact hc 5
    · simp at hi
def aName : ByteArray := ⟨#[97]⟩
def Q0 : ByteArray → List S34 := fun _ => []
def Q2 : ByteArray → List S34 := setQ Q0 aName [⟨1, []⟩, ⟨2, []⟩]
theorem send3 {w : World} {N M g B : Nat} (h : NetG w N M 2 B (fun _ => none) (fun _ => none) Q0) (hg : w.heap[g]? = some (.cells #[.int .i64 1, .slice none 0 0, .int .i64 2, .slice none 0 0, .int .i64 3, .slice none 0 0] 34 (0, 0))) (hgM : g ≠ M) :
    Calls Try.prog 10 #[.pointer (some ⟨N, 0, none⟩), .string ⟨#[97]⟩, .slice (some ⟨g, 0, none⟩) 3 3] w fun e w' => ∃ own' G', e = .returned (.tuple #[.int .i64 2, .int .i64 0]) ∧ NetG w' N M 2 B own' G' Q2 ∧ Chg (fun k => k = M) w w' :=
  (send_calls h aName (some ⟨g, 0, none⟩) 3 three tenant_a (fun w' hc => lit3 ((hc.block g (heap_lt hg) (fun e => by rcases e with e | e; exact hgM e; cases e)).trans hg)) (Nat.le_refl _) (by intro x hx; simp [three] at hx; rcases hx with rfl | rfl | rfl <;> decide) 2 (by decide) (by simp [Q0]) (.inr (by simp [Q0]))).mono fun e w' ⟨own', G', h1, h2, h3, _⟩ => ⟨own', G', h1, h2, h3.os, h3.tape, h3.output, h3.size, fun k hk hn => h3.block k hk (fun e => by rcases e with e | e; exact hn e; cases e), h3.five⟩
theorem double2 {w : World} {N M B : Nat} {own : Nat → Option ByteArray} {G : ByteArray → Option Value} (h : NetG w N M 2 B own G Q2) :
    Calls Try.prog 13 #[.pointer (some ⟨N, 0, none⟩), .string ⟨#[97]⟩, .int .i64 0] w fun e w' => e = .returned (.int .i64 5) ∧ Below w.heap.size w w' :=
  double_full h aName 0 (by decide) (by decide +kernel) (by decide +kernel)
theorem take2 {w : World} {N M B : Nat} {own : Nat → Option ByteArray} {G : ByteArray → Option Value} (h : NetG w N M 2 B own G Q2) :
    Calls Try.prog 11 #[.pointer (some ⟨N, 0, none⟩), .string ⟨#[97]⟩, .int .i64 0] w fun e w' => ∃ own' G' A1 c1, e = .returned (.tuple #[.agg #[.int .i64 1, .slice A1 0 c1], .int .i64 0]) ∧ NetG w' N M 2 B own' G' (setQ Q2 aName [⟨2, []⟩]) ∧ Chg (fun k => k = M ∨ own k = some aName) w w' :=
  (take_calls h aName 0 (by decide +kernel) ⟨1, []⟩ (by rfl)).mono fun e w' ⟨own', G', A1, c1, h1, h2, h3, _⟩ => ⟨own', G', A1, c1, h1, h2, h3⟩
theorem len1 {w : World} {N M B : Nat} {own : Nat → Option ByteArray} {G : ByteArray → Option Value} (h : NetG w N M 2 B own G (setQ Q2 aName [⟨2, []⟩])) :
    Calls Try.prog 15 #[.pointer (some ⟨N, 0, none⟩), .string ⟨#[97]⟩] w fun e w' => e = .returned (.int .i64 1) ∧ w' = w :=
  len_calls h aName
set_option maxHeartbeats 1000000 in
set_option maxRecDepth 100000 in
theorem live_calls (w : World) : Calls Try.prog 8 #[] w fun e w' => e = .returned (.bool true) ∧ Below w.heap.size w w' := by
  go_enter Try.func8, Try.ntmps8
  go_wp2_with (first
    | (go_at_call 7; (with_reducible refine (new_calls 2 _ (by decide) (by decide)).mono ?_); rintro e w1 ⟨N, M, rfl, hN1, hb1, hNl, hMl⟩; have HN1 := Aside0.mk hN1; have HB1 := Aside0.mk hb1; have HNl := Aside0.mk hNl; have HMl := Aside0.mk hMl; clear hN1 hb1 hNl hMl)
    | (go_at_call 10; (with_reducible refine (send3 (HN1.out.below (below_alloc (Below.refl _ _) _)) (blk_new w1 _) (fun e => by have := HMl.out; omega)).mono ?_); rintro e w2 ⟨own2, G2, rfl, hN2, hc2⟩; have HN2 := Aside0.mk hN2; have HC2 := Aside0.mk hc2; clear hN2 hc2)
    | (go_at_call 13; (with_reducible refine (double2 HN2.out).mono ?_); rintro e w3 ⟨rfl, hb3⟩; have HB3 := Aside0.mk hb3; have HN3 := Aside0.mk (HN2.out.below hb3); clear hb3)
    | (go_at_call 11; (with_reducible refine (take2 HN3.out).mono ?_); rintro e w4 ⟨own4, G4, A4, c4, rfl, hN4, hc4⟩; have HN4 := Aside0.mk hN4; have HC4 := Aside0.mk hc4; clear hN4 hc4)
    | (go_at_call 15; (with_reducible refine (len1 (HN4.out.below (below_alloc (Below.refl _ _) _))).mono ?_); rintro e w5 ⟨rfl, rfl⟩))
  go_ret
  have b1 : Below w.heap.size w (w1.alloc (.cells #[.int .i64 1, .slice none 0 0, .int .i64 2, .slice none 0 0, .int .i64 3, .slice none 0 0] 34)) := below_alloc HB1.out _
  have b2 := HC2.out.onto b1 (Nat.le_refl _) (fun k e => by rw [e]; exact HN2.out.baseM)
  have b3 := below_step b2 HB3.out
  have b4 := HC4.out.onto b3 (Nat.le_refl _) (fun k e => by
    rcases e with e | e
    · rw [e]; exact HN2.out.baseM
    · exact (HN2.out.lt k _ e).1)
  exact ⟨rfl, below_alloc b4 _⟩
end Go.Proofs.Ytlnipfmgdkiboaa.N
