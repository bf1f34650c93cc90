/- The network by hand: All. -/
import Derived.Test.YtlnipfmgdkiboaaN10
namespace Go.Proofs.Ytlnipfmgdkiboaa.N
open Go.RowKit Go.Proofs.Ytlnipfmgdkiboaa.Q Go.Proofs.YtlnipfmgdkiboaaW.PrintWords Go.Proofs.YtlnipfmgdkiboaaW.PrintLast Go.Proofs.YtlnipfmgdkiboaaW.PrintMore
set_option linter.unusedVariables false
set_option linter.unusedSimpArgs false
def all.T6 : Bool × List (List Nat × List Nat) := (true, [([], []), ([], []), ([1], [1]), ([2], [2]), ([0, 3, 2], [0, 3]), ([4, 4, 0, 1, 2, 3, 4], [4])])
def all.B6 : List Nat := [0, 0, 2, 6, 15, 31]
theorem all.tab6 : rtab .any (opsOf Try.f17 6) = all.T6 := by kernel_rfl
theorem all.bits6 : waitsOk all.T6.2 all.B6 = true := by kernel_rfl
section
variable {w : World} {N M : Nat} {room : Int} {B : Nat} {own : Nat → Option ByteArray} {G : ByteArray → Option Value} {Q : ByteArray → List S34}
theorem ps3 {w' : World} {Bs L : Nat} {v a b : Value} (hB : w'.heap[Bs]? = some (.cells #[v] 29 (0, 0))) (hL : w'.heap[L]? = some (.cells #[a, b] 34 (0, 0))) :
    w'.cell? ⟨Bs, 0, none⟩ = some v ∧ w'.cell? ⟨L, 0, none⟩ = some a ∧ w'.cell? ⟨L, 1, none⟩ = some b :=
  ⟨(blk_cell hB 0).trans rfl, (blk_cell hL 0).trans rfl, (blk_cell hL 1).trans rfl⟩
theorem below_trans_grown {B : Nat} {w w1 w2 : World} {row : Option Nat} (hb : Below B w w1) (hg : w1.grownBy w2 row) (hr : ∀ k, some k = row → B ≤ k) (hs : B ≤ w1.heap.size) : Below B w w2 :=
  ⟨hg.os.trans hb.os, hg.tape.trans hb.tape, hg.output.trans hb.output, Nat.le_trans hb.size hg.size, fun k hk => (hg.block k (by omega) (fun e => by have := hr k e; omega)).trans (hb.block k hk)⟩
/-- What All hands back: a function over a box with a row of letters of its own. -/
def Told (w : World) (l : List S34) (e : Ending) (w' : World) : Prop :=
  ∃ Bs v, e = .returned (.func (.func 30) #[] #[.pointer (some ⟨Bs, 0, none⟩)]) ∧ w'.heap[Bs]? = some (.cells #[v] 29 (0, 0)) ∧ w.heap.size ≤ Bs ∧ k34.R 34 w' w.heap.size (fun k => w.heap.size ≤ k) v l ∧ Below w.heap.size w w'
set_option maxHeartbeats 1000000 in
set_option maxRecDepth 100000 in
theorem all_calls (h : NetG w N M room B own G Q) (s : ByteArray) : Calls Try.prog 17 #[.pointer (some ⟨N, 0, none⟩), .string s] w (Told w (Q s)) := by
  obtain ⟨c0, c1⟩ := h.cell
  have c1a := fun o => Go.Lib.cell?_alloc_some (W := w) o c1
  have hal : ∀ o, (Instr.lookup 60 (.map (some M)) (.string s) false).run Try.prog (w.alloc o) = .ok ((G s).getD (.slice none 0 0)) (w.alloc o) := fun o => (h.below (below_alloc (Below.refl _ _) o)).look s
  obtain ⟨Aw, cw, hv, hcw, hcr⟩ := Kd.R_reads (h.rrows s)
  rw [hv] at hal
  have HSH := Aside0.mk (h.short s)
  have HCR := Aside0.mk hcr
  have HFEW := Aside0.mk (show (Q s).length ≤ 256 by have := h.few s; have := h.room2; omega)
  have HLT := Aside0.mk h.lt
  clear hcr hv hcw h
  generalize Q s = Qs at *
  generalize hn : Qs.length = nn at *
  have HN := Aside0.mk hn
  clear hn
  go_enter Try.func17, Try.ntmps17
  go_wp2_with (go_at_call 25; (with_reducible refine (ok_calls N M _ (c1a _)).mono ?_); rintro e w' ⟨rfl, rfl⟩)
  generalize hBs : w.heap.size = Bs at *
  have HBW := Aside0.mk hBs
  clear hBs
  go_loopg [17] (nn + 1) (fun kq v17 wr => ∃ (j : Nat) (vq : Value), v17 = .int .i64 j ∧ Aside0 (kq + j = nn + 1 ∧ j ≤ nn) ∧ Aside0 (wr.heap[Bs]? = some (.cells #[vq] 29 (0, 0))) ∧ Aside0 (k34.R 34 wr Bs (fun k => Bs ≤ k ∧ k ≠ Bs) vq (Qs.take j)) ∧ Aside0 (Below Bs w wr))
  case atStart => exact ⟨0, .slice none 0 0, rfl, ⟨by omega⟩, ⟨by rw [← HBW.out]; exact blk_new w _⟩, ⟨Kd.R_nil _ _ _ _ _⟩, ⟨by rw [← HBW.out]; exact below_alloc (Below.refl _ _) _⟩⟩
  case round =>
    obtain ⟨j, vq, rfl, HJ, HBX, HRQ, HB⟩ := hrel
    cases gk with
    | zero => have := HJ.out; omega
    | succ k1 =>
    obtain ⟨Aq, cq, hvq, hcq, _⟩ := Kd.R_reads HRQ.out
    have hsub : (Qs.take j).length = j := by rw [List.length_take]; have := HJ.out; have := HN.out; omega
    by_cases hlt : j < nn
    · have hi0 : (0 : Int) ≤ (j : Int) := by omega
      have hi1 : (j : Int) < (nn : Int) := by omega
      have hBw : Below w.heap.size w wr := by have := HB.out; rwa [← HBW.out] at this
      obtain ⟨ad, A1, c1_, hAe, x0, x1, hc1, hd1⟩ := at_T34 (n := nn) (xs := Qs) (Kd.C_below HCR.out hBw) (j : Int) hi0 hi1
      subst hAe
      simp only [Int.toNat_natCast] at x0 x1
      have hx : rd_T34 Qs (j : Int) = Qs.getD j z34 := rfl
      have hD2 : (rd_T34 Qs (j : Int)).f1.length < 140737488355328 := HSH.out _ (by have := HN.out; rw [hx, List.getD_eq_getElem?_getD, List.getElem?_eq_getElem (by omega)]; exact List.getElem_mem _)
      have HTK := Aside0.mk (show Qs.take j ++ [rd_T34 Qs (j : Int)] = Qs.take (j + 1) by
        have := HN.out
        rw [hx, List.getD_eq_getElem?_getD, List.getElem?_eq_getElem (show j < Qs.length by omega), List.take_add_one, List.getElem?_eq_getElem (show j < Qs.length by omega)]
        rfl)
      generalize rd_T34 Qs (j : Int) = x at *
      generalize Qs.take j = Ql at *
      subst hvq
      have HBL := Aside0.mk (heap_lt HBX.out)
      have HV := Aside0.mk (show ∀ k, (Value.slice Aq Ql.length cq).ownBlock = some k → k < wr.heap.size from Kd.R_lt HRQ.out)
      have HQL := Aside0.mk (show Ql.length + 1 ≤ 257 by have := HFEW.out; omega)
      have HD2 := Aside0.mk hD2
      have HD1 := Aside0.mk hc1
      have HD0' := Aside0.mk hd1
      have HBX0 := Aside0.mk (blk_drew (blk_alloc HBX.out (.cells #[.int .i64 x.f0, .slice A1 x.f1.length c1_] 34)))
      have HL0 := Aside0.mk (blk_drew (blk_new wr (.cells #[.int .i64 x.f0, .slice A1 x.f1.length c1_] 34)))
      have hbd := below_drew1 (below_alloc (Below.refl wr.heap.size wr) (.cells #[.int .i64 x.f0, .slice A1 x.f1.length c1_] 34))
      have HRQ0 := Aside0.mk (Kd.R_below HRQ.out hbd)
      have HD0 := Aside0.mk (Kd.C_below hd1 hbd)
      have HS0 := Aside0.mk hbd.size
      have HS00 := Aside0.mk hbd.size
      have HB0 := Aside0.mk (HB.out.trans (hbd.mono (Nat.le_of_lt HBL.out)))
      clear hx hD2 hc1 hd1 hbd hcq hBw HD0' hsub
      go_wp2_with (fail)
      refine start_ (n := 6) (S := fun w' => w'.cell? ⟨Bs, 0, none⟩ = some (.slice Aq Ql.length cq) ∧ w'.cell? ⟨wr.heap.size, 0, none⟩ = some (.int .i64 x.f0) ∧ w'.cell? ⟨wr.heap.size, 1, none⟩ = some (.slice A1 x.f1.length c1_)) (ds := [5]) #[false, false, false, false, false, false] (by kernel_rfl) rfl rfl (ps3 HBX0.out HL0.out) (fun hHeld => ?_); refine with_tabW all.tab6 all.bits6 (fun HT_ HW_ => ?_)
      generalize hW0 : (wr.alloc (.cells #[.int .i64 x.f0, .slice A1 x.f1.length c1_] 34)).drew = W0 at *
      clear hW0
      refine take_ (i := 0) (N := some 21) (v := ?_) (a' := ?_) #[true, false, false, false, false, false] rfl rfl (take_ofW HT_.out HW_.out (by kernel_rfl)) (fun _ _ _ h => h) (Or.inl ⟨by rfl, ?_⟩) hHeld ?_ ?_
      rotate_left
      · rintro w' ⟨s0, s1, s2⟩
        go_simp
        with_reducible rfl
      rotate_left
      · simp only [Act.put, List.setIfInBounds_toArray, List.set_cons_zero, List.set_cons_succ, i64_w, i32_w, xu32_w, xu8_w]
        rfl
      refine take_ (i := 1) (N := some 22) (v := ?_) (a' := ?_) #[true, true, false, false, false, false] rfl rfl (take_ofW HT_.out HW_.out (by kernel_rfl)) (fun _ _ _ h => h) (Or.inl ⟨by rfl, ?_⟩) hHeld ?_ ?_
      rotate_left
      · rintro w' ⟨s0, s1, s2⟩
        go_simp
        with_reducible rfl
      rotate_left
      · simp only [Act.put, List.setIfInBounds_toArray, List.set_cons_zero, List.set_cons_succ, i64_w, i32_w, xu32_w, xu8_w]
        rfl
      refine one_ (i := 2) (N := some 23) #[true, true, true, false, false, false] rfl rfl (one_of HT_.out (by kernel_rfl)) (by decide) (fun K hK => ?_)
      refine goes_ Try.func27 (by kernel_rfl) rfl #[.agg #[.int .i64 x.f0, .slice A1 x.f1.length c1_]] (by rfl) rfl rfl (by (try simp only [List.map_toArray, List.map_cons, List.map_nil]); first | done | rfl) ?_
      with_reducible refine (net_own.calls x.f0 A1 c1_ x.f1 x.f0 x.f1 _ ?side1 ?side2 ?side3).mono ?_
      (case side1 => exact HD0.out)
      (case side2 => exact HD1.out)
      (case side3 => exact own_f _ _ HD2.out)
      rintro e w1 ⟨v1, rfl, hR1, hb1⟩
      refine ⟨_, rfl, ?_⟩
      obtain ⟨A2, c2, rfl⟩ := Kd.R_slice hR1
      have HBX1 := Aside0.mk (blk_below HBX0.out hb1)
      have HL1 := Aside0.mk (blk_below HL0.out hb1)
      have HRQ1 := Aside0.mk (Kd.R_below HRQ0.out hb1)
      have HR1 := Aside0.mk (Kd.R_bound hR1)
      have HS1 := Aside0.mk hb1.size
      have HB1 := Aside0.mk (HB0.out.trans (hb1.mono (Nat.le_trans (Nat.le_of_lt HBL.out) HS0.out)))
      clear hR1 hb1
      refine hK.out _ _ (ps3 HBX1.out HL1.out) (fun hHeld => ?_)
      clear hK K
      refine norm_ (a' := ?_) ?_ ?_
      rotate_left
      · show Act.put _ (some 23) _ = _
        simp only [Act.put, List.setIfInBounds_toArray, List.set_cons_zero, List.set_cons_succ, i64_w, i32_w, xu32_w, xu8_w]
        rfl
      refine one_ (i := 3) (N := some 24) #[true, true, true, true, false, false] rfl rfl (one_of HT_.out (by kernel_rfl)) (by decide) (fun K hK => ?_)
      refine value_ (v := .slice (some ⟨w1.heap.size, 0, none⟩) 1 1) (w1 := w1.alloc (.cells #[.int .i64 x.f0, .slice A2 x.f1.length c2] 34)) (by rfl) rfl (by first | (go_simp; done) | (go_simp; rfl)) ?_
      refine hK.out _ _ (ps3 (blk_alloc HBX1.out _) (blk_alloc HL1.out _)) (fun hHeld => ?_)
      clear hK K
      refine norm_ (a' := ?_) ?_ ?_
      rotate_left
      · show Act.put _ (some 24) _ = _
        simp only [Act.put, List.setIfInBounds_toArray, List.set_cons_zero, List.set_cons_succ, i64_w, i32_w, xu32_w, xu8_w]
        rfl
      refine one_ (i := 4) (N := some 25) #[true, true, true, true, true, false] rfl rfl (one_of HT_.out (by kernel_rfl)) (by decide) (fun K hK => ?_)
      refine Kd.R_append_step k34 (w0 := w1) Bs (by rfl) (.tmp 21) (.tmp 24) 29 34 (.agg #[.int .i64 0, .slice none 0 0]) 32 rfl Try.underlying29 info34 rfl (by decide) (by omega) (.slice Aq Ql.length cq) Ql x [.int .i64 x.f0, .slice A2 x.f1.length c2] (fun k => Bs ≤ k ∧ k ≠ Bs) (fun k => W0.heap.size ≤ k) rfl rfl ?aP ?aK ?aF ?aO ?aB ?aS ?aL ?_
      (case aP => exact k34_mkM w1 Bs _ x (Kd.R_lower (Kd.R_mono HR1.out (fun k hk => hk.2.1)) (Nat.le_trans (Nat.le_of_lt HBL.out) HS0.out)))
      (case aK => exact fun k hk => ⟨⟨Nat.le_trans (Nat.le_trans (Nat.le_of_lt HBL.out) HS0.out) hk, fun e => by have h1 := HBL.out; have h2 := HS0.out; omega⟩, fun e => by have h1 := HV.out k e.symm; have h2 := HS0.out; have h3 := HS00.out; omega⟩)
      (case aF => exact fun k hk => by have h1 := HBL.out; have h2 := HS0.out; have h3 := HS1.out; exact ⟨by omega, fun e => by omega⟩)
      (case aO => exact HRQ1.out)
      (case aB => exact Below.refl _ _)
      (case aS => have h1 := HBL.out; have h2 := HS0.out; have h3 := HS1.out; omega)
      (case aL => have := HQL.out; omega)
      intro v2 w3 ho hbB hg hat
      obtain ⟨A3, c3, rfl⟩ := Kd.R_slice ho
      rw [show (Ql ++ [x]).length = Ql.length + 1 from List.length_append] at ho ⊢
      have HNB := Aside0.mk (show some Bs ≠ (Value.slice Aq Ql.length cq).ownBlock from fun e => (HRQ1.out.1 Bs e.symm).2 rfl)
      have HNL := Aside0.mk (show some wr.heap.size ≠ (Value.slice Aq Ql.length cq).ownBlock from fun e => by have h1 := HV.out wr.heap.size e.symm; omega)
      have HBX3 := Aside0.mk ((hg.block Bs (heap_lt HBX1.out) HNB.out).trans HBX1.out)
      have HL3 := Aside0.mk ((hg.block wr.heap.size (heap_lt HL1.out) HNL.out).trans HL1.out)
      have HR3 := Aside0.mk ho
      have HB3 := Aside0.mk (below_trans_grown HB1.out hg (fun k e => (HRQ1.out.1 k e.symm).1) (by have h1 := HBL.out; have h2 := HS0.out; have h3 := HS1.out; have h4 := HB1.out.size; omega))
      have HSZ3 := Aside0.mk hg.size
      clear ho hbB hg hat
      refine hK.out _ _ (ps3 HBX3.out HL3.out) (fun hHeld => ?_)
      clear hK K
      refine norm_ (a' := ?_) ?_ ?_
      rotate_left
      · show Act.put _ (some 25) _ = _
        simp only [Act.put, List.setIfInBounds_toArray, List.set_cons_zero, List.set_cons_succ, i64_w, i32_w, xu32_w, xu8_w]
        rfl
      refine last_ (i := 5) (N := none) #[true, true, true, true, true, true] rfl rfl (one_of HT_.out (by kernel_rfl)) (by decide) (fun K hK => ?_)
      have hcB := (ps3 HBX3.out HL3.out).1
      have hfB := blk_frozen' HBX3.out 0
      refine skip_ (w1 := w3.setCell ⟨Bs, 0, none⟩ (.slice A3 (Ql.length + 1) c3)) (by rfl) rfl (by first | (go_simp; done) | (go_simp; rfl)) ?_
      refine hK.out _ _ ?_
      clear hK K
      refine done_ (done_of HT_.out (by kernel_rfl)) ?_
      go_wp2
      go_roundg k1
      case measure => omega
      case rel =>
        refine ⟨j + 1, .slice A3 (Ql.length + 1) c3, ?_, ⟨by have := HJ.out; omega⟩, ⟨blk_put HBX3.out 0 _ rfl⟩, ⟨?_⟩, ⟨?_⟩⟩
        · have := HFEW.out
          first | rfl | (rw [wrap64_self (by omega) (by omega)]; rfl) | (simp; done) | (simp; omega)
        · rw [← HTK.out]
          exact Kd.R_far (p := ⟨Bs, 0, none⟩) HR3.out (fun k hk => hk.2) _
        · exact HB3.out.setCell (Nat.le_refl _) _
    · have hj : j = nn := by have := HJ.out; omega
      subst hj
      have HTK := Aside0.mk (show Qs.take j = Qs from List.take_of_length_le (by rw [HN.out]; exact Nat.le_refl _))
      clear hsub hvq hcq
      go_wp2_with (fail)
      go_ret
      refine ⟨Bs, vq, rfl, HBX.out, by rw [HBW.out]; exact Nat.le_refl _, ?_, by rw [HBW.out]; exact HB.out⟩
      have h1 := HRQ.out
      rw [HTK.out] at h1
      rw [HBW.out]
      exact Kd.R_mono h1 (fun k hk => hk.1)
end
end Go.Proofs.Ytlnipfmgdkiboaa.N
