-- Laid by this session's turned edition of print.py out of the translation. Not trusted: Lean checks it.
import Derived.Test.YtfjhommpgbppjaaR0
import Derived.Test.YtfjhommpgbppjaaR1
import Derived.Test.YtfjhommpgbppjaaRE
namespace Go.Proofs.Ytfjhommpgbppjaa.R
open Go.RowKit Go.Proofs.YtfjhommpgbppjaaW.PrintWords Go.Proofs.YtfjhommpgbppjaaW.PrintLast Go.Proofs.YtfjhommpgbppjaaW.PrintMore
attribute [local go_sem] max2_int min2_int max_two min_two max_three min_three max_four min_four   -- for this text's walks alone
set_option linter.unusedVariables false
set_option linter.unusedSimpArgs false

/-! ### points_Put: function 21 -/
mutual
def points_Put.j0 : Nat → List (S25) → Bool → Int → Int → Int → Option ((List (S25)) × Int × Int)
  | 0, _, _, _, _, _ => none
  | k + 1, x0, x20, x107000, x107001, x107002 => if x20 = true then (some (x0, 0, 1)) else ((points_Find.f x0 x107000).bind fun bt108 => (if bt108.2 = true then (if 0 ≤ bt108.1 then (if bt108.1 < (x0.length : Int) then (if ((rd_T25 x0 bt108.1).f1) = x107001 then (points_Put.j1 k x0 bt108.1 2 x107000 x107001 x107002 ((rd_T25 x0 bt108.1).f0) ((rd_T25 x0 bt108.1).f1) ((rd_T25 x0 bt108.1).f2)) else ((points_Ahead.f x107000 x107001 x107002 ((rd_T25 x0 bt108.1).f0) ((rd_T25 x0 bt108.1).f1) ((rd_T25 x0 bt108.1).f2)).bind fun t135 => (if t135 = true then (points_Put.j1 k x0 bt108.1 3 x107000 x107001 x107002 ((rd_T25 x0 bt108.1).f0) ((rd_T25 x0 bt108.1).f1) ((rd_T25 x0 bt108.1).f2)) else (points_Put.j1 k x0 bt108.1 4 x107000 x107001 x107002 ((rd_T25 x0 bt108.1).f0) ((rd_T25 x0 bt108.1).f1) ((rd_T25 x0 bt108.1).f2))))) else (none)) else (none)) else (if (x0.length : Int) ≥ 65536 then (some (x0, 0, 5)) else (if 0 ≤ (wrap64 ((x0.length : Int) + 1)) then (if (wrap64 ((x0.length : Int) + 1) : Int).toNat ≤ 11728124029610 then ((some (([] : List (S25)) : List (S25))).bind fun y110 => (if 0 ≤ bt108.1 then (if bt108.1 ≤ (x0.length : Int) then ((some (x0.take (bt108.1 : Int).toNat : List (S25))).bind fun y113 => (if y110.length + y113.length < 5864062014805 then ((some (y110 ++ y113 : List (S25))).bind fun y117 => ((some (([(⟨x107000, x107001, x107002⟩ : S25)] : List (S25)) : List (S25))).bind fun y120 => (if y117.length + y120.length < 5864062014805 then ((some (y117 ++ y120 : List (S25))).bind fun y123 => ((some (x0.drop (bt108.1 : Int).toNat : List (S25))).bind fun y126 => (if y123.length + y126.length < 5864062014805 then (some ((y123 ++ y126), 1, 0)) else (none)))) else (none)))) else (none))) else (none)) else (none))) else (none)) else (none)))))
def points_Put.j1 : Nat → List (S25) → Int → Int → Int → Int → Int → Int → Int → Int → Option ((List (S25)) × Int × Int)
  | 0, _, _, _, _, _, _, _, _, _ => none
  | k + 1, x0, x7, x11, x107000, x107001, x107002, x135000, x135001, x135002 => if x107000 = x135000 then (if x107001 = x135001 then (if x107002 = x135002 then (points_Put.j2 k x0 x7 x11 true x107000 x107001 x107002) else ((points_Ahead.f x107000 x107001 x107002 x135000 x135001 x135002).bind fun t136 => (points_Put.j2 k x0 x7 x11 (!t136) x107000 x107001 x107002))) else ((points_Ahead.f x107000 x107001 x107002 x135000 x135001 x135002).bind fun t137 => (points_Put.j2 k x0 x7 x11 (!t137) x107000 x107001 x107002))) else ((points_Ahead.f x107000 x107001 x107002 x135000 x135001 x135002).bind fun t138 => (points_Put.j2 k x0 x7 x11 (!t138) x107000 x107001 x107002))
def points_Put.j2 : Nat → List (S25) → Int → Int → Bool → Int → Int → Int → Option ((List (S25)) × Int × Int)
  | 0, _, _, _, _, _, _, _ => none
  | k + 1, x0, x7, x11, x73, x107000, x107001, x107002 => if x73 = true then (some (x0, x11, 0)) else ((some (([] : List (S25)) : List (S25))).bind fun y139 => (if y139.length + x0.length < 5864062014805 then ((some (y139 ++ x0 : List (S25))).bind fun y142 => (if 0 ≤ x7 then (if x7 < (y142.length : Int) then (some ((y142.set (x7 : Int).toNat (⟨x107000, x107001, x107002⟩ : S25)), x11, 0)) else (none)) else (none))) else (none)))
end
def points_Put.f (k : Nat) (l0 : List (S25)) (a1_0 : Int) (a1_1 : Int) (a1_2 : Int) : Option ((List (S25)) × Int × Int) := if a1_2 = 0 then (points_Put.j0 k l0 true a1_0 a1_1 a1_2) else ((points_Right.f k l0).bind fun t107 => (points_Put.j0 k l0 (!t107) a1_0 a1_1 a1_2))
theorem points_Put.mono_l : ∀ k, (∀ y0 y1 y2 y3 y4, LeO (points_Put.j0 k y0 y1 y2 y3 y4) (points_Put.j0 (k + 1) y0 y1 y2 y3 y4)) ∧ (∀ y0 y1 y2 y3 y4 y5 y6 y7 y8, LeO (points_Put.j1 k y0 y1 y2 y3 y4 y5 y6 y7 y8) (points_Put.j1 (k + 1) y0 y1 y2 y3 y4 y5 y6 y7 y8)) ∧ (∀ y0 y1 y2 y3 y4 y5 y6, LeO (points_Put.j2 k y0 y1 y2 y3 y4 y5 y6) (points_Put.j2 (k + 1) y0 y1 y2 y3 y4 y5 y6))
  | 0 => ⟨fun _ _ _ _ _ r h => by simp [points_Put.j0] at h, fun _ _ _ _ _ _ _ _ _ r h => by simp [points_Put.j1] at h, fun _ _ _ _ _ _ _ r h => by simp [points_Put.j2] at h⟩
  | k + 1 => by
    obtain ⟨ih0, ih1, ih2⟩ := points_Put.mono_l k
    refine ⟨?_, ?_, ?_⟩
    · intro y0 y1 y2 y3 y4
      unfold points_Put.j0
      repeat' first
      | (with_reducible exact ih0 _ _ _ _ _)
      | (with_reducible exact ih1 _ _ _ _ _ _ _ _ _)
      | (with_reducible exact ih2 _ _ _ _ _ _ _)
      | (with_reducible exact points_Right.mono _ _)
      | (with_reducible exact LeO.refl _)
      | (with_reducible exact LeO.none _)
      | (with_reducible refine LeO.ite ?_ ?_)
      | (with_reducible refine LeO.bind ?_ (fun _ => ?_))
      | exact ih0 _ _ _ _ _
      | exact ih1 _ _ _ _ _ _ _ _ _
      | exact ih2 _ _ _ _ _ _ _
      | exact points_Right.mono _ _
      | exact LeO.none _
      | refine LeO.ite ?_ ?_
      | refine LeO.bind ?_ (fun _ => ?_)
    · intro y0 y1 y2 y3 y4 y5 y6 y7 y8
      unfold points_Put.j1
      repeat' first
      | (with_reducible exact ih0 _ _ _ _ _)
      | (with_reducible exact ih1 _ _ _ _ _ _ _ _ _)
      | (with_reducible exact ih2 _ _ _ _ _ _ _)
      | (with_reducible exact points_Right.mono _ _)
      | (with_reducible exact LeO.refl _)
      | (with_reducible exact LeO.none _)
      | (with_reducible refine LeO.ite ?_ ?_)
      | (with_reducible refine LeO.bind ?_ (fun _ => ?_))
      | exact ih0 _ _ _ _ _
      | exact ih1 _ _ _ _ _ _ _ _ _
      | exact ih2 _ _ _ _ _ _ _
      | exact points_Right.mono _ _
      | exact LeO.none _
      | refine LeO.ite ?_ ?_
      | refine LeO.bind ?_ (fun _ => ?_)
    · intro y0 y1 y2 y3 y4 y5 y6
      unfold points_Put.j2
      repeat' first
      | (with_reducible exact ih0 _ _ _ _ _)
      | (with_reducible exact ih1 _ _ _ _ _ _ _ _ _)
      | (with_reducible exact ih2 _ _ _ _ _ _ _)
      | (with_reducible exact points_Right.mono _ _)
      | (with_reducible exact LeO.refl _)
      | (with_reducible exact LeO.none _)
      | (with_reducible refine LeO.ite ?_ ?_)
      | (with_reducible refine LeO.bind ?_ (fun _ => ?_))
      | exact ih0 _ _ _ _ _
      | exact ih1 _ _ _ _ _ _ _ _ _
      | exact ih2 _ _ _ _ _ _ _
      | exact points_Right.mono _ _
      | exact LeO.none _
      | refine LeO.ite ?_ ?_
      | refine LeO.bind ?_ (fun _ => ?_)
theorem points_Put.mono : ∀ a0 a1 a2 a3 k, LeO (points_Put.f k a0 a1 a2 a3) (points_Put.f (k + 1) a0 a1 a2 a3) := by
  intro a0 a1 a2 a3 k
  obtain ⟨ih0, ih1, ih2⟩ := points_Put.mono_l k
  unfold points_Put.f
  repeat' first
      | (with_reducible exact ih0 _ _ _ _ _)
      | (with_reducible exact ih1 _ _ _ _ _ _ _ _ _)
      | (with_reducible exact ih2 _ _ _ _ _ _ _)
      | (with_reducible exact points_Right.mono _ _)
      | (with_reducible exact LeO.refl _)
      | (with_reducible exact LeO.none _)
      | (with_reducible refine LeO.ite ?_ ?_)
      | (with_reducible refine LeO.bind ?_ (fun _ => ?_))
      | exact ih0 _ _ _ _ _
      | exact ih1 _ _ _ _ _ _ _ _ _
      | exact ih2 _ _ _ _ _ _ _
      | exact points_Right.mono _ _
      | exact LeO.none _
      | refine LeO.ite ?_ ?_
      | refine LeO.bind ?_ (fun _ => ?_)
def points_Put.T8 : Bool × List (List Nat × List Nat) := (true, [([], []), ([], []), ([], []), ([], []), ([1, 2, 3], [1, 2, 3]), ([0, 4], [0, 4]), ([], []), ([6], [6]), ([5, 7, 5], [5, 7]), ([8, 8, 0, 1, 2, 3, 4, 5, 6, 7, 8], [0, 8])])
def points_Put.B8 : List Nat := [0, 0, 0, 0, 14, 31, 0, 64, 255, 511]
theorem points_Put.tab8 : rtab .any (opsOf Try.f21 8) = points_Put.T8 := by kernel_rfl
theorem points_Put.bits8 : waitsOk points_Put.T8.2 points_Put.B8 = true := by kernel_rfl
set_option maxHeartbeats 8000000 in
set_option maxRecDepth 100000 in
theorem points_Put.calls (k : Nat) (P0_ : Nat → Prop) (u9000_ : Value) (l0 : List (S25)) (a1_0 : Int) (a1_1 : Int) (a1_2 : Int) (r1 : List (S25)) (r2 : Int) (r3 : Int) (w0 w : World) (hB : Below w0.heap.size w0 w) (ho0 : Kd.R k25 25 w w0.heap.size P0_ u9000_ l0) (h : points_Put.f k l0 a1_0 a1_1 a1_2 = some (r1, r2, r3)) :
    Calls Try.prog 21 #[u9000_, .agg #[.int .i64 a1_0, .int .u64 a1_1, .int .u64 a1_2]] w fun e w' => ∃ v0_ : Value, e = .returned (.tuple #[v0_, .int .i64 r2, .int .i64 r3]) ∧ Kd.R k25 25 w' w0.heap.size (fun k_ => (P0_ k_ ∨ w.heap.size ≤ k_)) v0_ r1 ∧ Below w0.heap.size w0 w' ∧ Kept w w' (fun k_ => P0_ k_) := by
  have hu25 := Try.underlying25
  have HO0 := Aside0.mk (show Kd.R k25 25 w w0.heap.size (fun k_ => (P0_ k_ ∨ w.heap.size ≤ k_)) u9000_ l0 from Kd.R_mono ho0 (fun k_ hk => (.inl hk)))
  have HK := Aside0.mk (Kept.refl w (fun k_ => P0_ k_))
  have HW0 := Aside0.mk hB.size
  have HB := Aside0.mk hB
  clear hB
  have H : (if a1_2 = 0 then (points_Put.j0 k l0 true a1_0 a1_1 a1_2) else ((points_Right.f k l0).bind fun t107 => (points_Put.j0 k l0 (!t107) a1_0 a1_1 a1_2))) = some (r1, r2, r3) := h
  clear h
  have HC3 := Aside0.mk H
  clear H
  go_enter Try.func21, Try.ntmps21
  go_upto_region 1 with (first | ((with_reducible refine gate_dst (N := 3) rfl ?_); refine box_event ?hg (N := 3) ?hd (cs := #[.int .i64 a1_0, .int .u64 a1_1, .int .u64 a1_2]) (t := 25) ?hr ?_; (case hd => rfl); (case hg => rfl); (case hr => first | (go_simp; done) | (go_simp; rfl)); intro gb106 hg w4 hbox hb; have n0_ := Aside0.mk (Kd.R_below (Kd.R_elderB (by (with_reducible repeat (first | apply Kd.R_alloc | apply Kd.R_drewN | apply Kd.R_drew)); exact HO0.out) gb106 (Nat.le_of_eq hg.symm)) hb); have n1_ := Aside0.mk (Kept.below (S := (fun k_ => P0_ k_)) (by repeat (first | (with_reducible first | exact HK.out | apply Kept.alloc | apply Kept.drewN | apply Kept.drew) | exact HK.out)) hb); have n2_ := Aside0.mk (below_step (by repeat (first | (with_reducible first | exact HB.out | apply below_alloc | apply pw_below_drewN | apply below_drew1) | exact HB.out)) hb); have n3_ := Aside0.mk (hbox); have n4_ := Aside0.mk ((by rw [hg]; exact (by first | exact HK.out.1 | exact (show Kept w _ (fun k_ => P0_ k_) from by repeat (first | (with_reducible first | exact HK.out | apply Kept.alloc | apply Kept.drewN | apply Kept.drew) | exact HK.out)).1) : w.heap.size ≤ gb106)); have n5_ := Aside0.mk ((by rw [hg]; exact (below_size (by repeat (first | (with_reducible first | exact HB.out | apply below_alloc | apply pw_below_drewN | apply below_drew1) | exact HB.out))) : w0.heap.size ≤ gb106)); clear HO0; clear HK; clear HB; have HO0 := n0_; have HK := n1_; have HB := n2_; have BK106 := n3_; have GW106 := n4_; have GE106 := n5_; clear n0_ n1_ n2_ n3_ n4_ n5_; clear hb hbox hg))
  (try simp only [Act.put, List.setIfInBounds_toArray, List.set_cons_zero, List.set_cons_succ])
  go_cut [20] (fun v20 wc => ∃ (kq : Nat) (x20_2 : Bool), v20 = .bool x20_2 ∧ Aside0 (points_Put.j0 kq l0 x20_2 a1_0 a1_1 a1_2 = some (r1, r2, r3)) ∧ Aside0 (kq ≤ k) ∧ Aside0 (Kd.R k25 25 wc w0.heap.size (fun k_ => (P0_ k_ ∨ w.heap.size ≤ k_) ∧ k_ ≠ gb106) u9000_ l0) ∧ Aside0 (wc.heap[gb106]? = some (.cells #[.int .i64 a1_0, .int .u64 a1_1, .int .u64 a1_2] 25 (0, 0))) ∧ Aside0 (Kept w wc (fun k_ => P0_ k_)) ∧ Aside0 (Below w0.heap.size w0 wc))
  case first =>
    have H := HC3.out
    clear HC3
    by_cases c5 : a1_2 = 0
    · rw [if_pos c5] at H
      have c5b0 : (a1_2 == 0) = true := beq_iff_eq.mpr c5
      have c5b1 : (a1_2 != 0) = false := bne_eq_false_iff_eq.mpr c5
      have EQc5 := Aside0.mk c5
      clear c5
      (first | rw [c5b0] | (simp only [i64_w, i32_w, xu32_w, xu8_w]; rw [c5b0]) | skip)
      have H' := Aside0.mk H
      clear H
      have hcz6_0 : w4.cell? ⟨gb106, 0, none⟩ = some (.int .i64 a1_0) := (blk_cell BK106.out 0).trans rfl
      have hcz6_1 : w4.cell? ⟨gb106, 1, none⟩ = some (.int .u64 a1_1) := (blk_cell BK106.out 1).trans rfl
      have hcz6_2 : w4.cell? ⟨gb106, 2, none⟩ = some (.int .u64 a1_2) := (blk_cell BK106.out 2).trans rfl
      have hfz6_0 := blk_frozen BK106.out 0
      have hfz6_1 := blk_frozen BK106.out 1
      have hfz6_2 := blk_frozen BK106.out 2
      go_wp2
      obtain rfl := EQc5.out
      go_meet
      case rel => exact ⟨_, (true), (by first | rfl | (simp; done) | (simp [*]; done)), H', ⟨by first | omega | exact Nat.le_refl _⟩, ⟨by (with_reducible repeat (first | apply Kd.R_alloc | apply Kd.R_drewN | apply Kd.R_drew)); exact HO0.out⟩, ⟨by (with_reducible repeat (first | refine blk_drewN ?_ _ | refine blk_drew ?_ | refine blk_alloc ?_ _)); exact BK106.out⟩, ⟨by repeat (first | (with_reducible first | exact HK.out | apply Kept.alloc | apply Kept.drewN | apply Kept.drew | refine Kept.setCell ?_ (.inr GW106.out) _) | exact HK.out)⟩, ⟨by repeat (first | (with_reducible first | exact HB.out | apply below_alloc | apply pw_below_drewN | apply below_drew1 | refine below_set ?_ GE106.out) | exact HB.out)⟩⟩
    · rw [if_neg c5] at H
      have c5b0 : (a1_2 == 0) = false := beq_eq_false_iff_ne.mpr c5
      have c5b1 : (a1_2 != 0) = true := bne_iff_ne.mpr c5
      (first | rw [c5b0] | (simp only [i64_w, i32_w, xu32_w, xu8_w]; rw [c5b0]) | skip)
      replace H := Option.bind_eq_some_iff.mp H
      obtain ⟨t107, A70, H⟩ := H
      replace H : (points_Put.j0 k l0 (!t107) a1_0 a1_1 a1_2) = some (r1, r2, r3) := H
      have A7 := Aside0.mk A70
      clear A70
      have H' := Aside0.mk H
      clear H
      have hcz8_0 : w4.cell? ⟨gb106, 0, none⟩ = some (.int .i64 a1_0) := (blk_cell BK106.out 0).trans rfl
      have hcz8_1 : w4.cell? ⟨gb106, 1, none⟩ = some (.int .u64 a1_1) := (blk_cell BK106.out 1).trans rfl
      have hcz8_2 : w4.cell? ⟨gb106, 2, none⟩ = some (.int .u64 a1_2) := (blk_cell BK106.out 2).trans rfl
      have hfz8_0 := blk_frozen BK106.out 0
      have hfz8_1 := blk_frozen BK106.out 1
      have hfz8_2 := blk_frozen BK106.out 2
      obtain ⟨Ao9, co9, eo9⟩ := Kd.R_slice HO0.out
      subst eo9
      go_wp2_with (first | (go_at_call 14; (with_reducible refine (points_Right.calls k _ _ l0 t107 _ ?side1 ?side2 A7.out).mono ?_); (case side1 => repeat (first | exact (Kd.R_reads' HO0.out).2.2 | (with_reducible refine Kd.C_alloc ?_ _) | (with_reducible refine Kd.C_drewN ?_ _) | (with_reducible refine Kd.C_drew ?_))); (case side2 => exact (Kd.R_reads' HO0.out).2.1); rintro e w10 ⟨rfl, hb⟩; have n0_ := Aside0.mk (Kd.R_below (by (with_reducible repeat (first | apply Kd.R_alloc | apply Kd.R_drewN | apply Kd.R_drew)); exact HO0.out) hb); have n1_ := Aside0.mk (blk_below (g := gb106) (o := .cells #[.int .i64 a1_0, .int .u64 a1_1, .int .u64 a1_2] 25 (0, 0)) (by (with_reducible repeat (first | refine blk_drewN ?_ _ | refine blk_drew ?_ | refine blk_alloc ?_ _)); exact BK106.out) hb); have n2_ := Aside0.mk (Kept.below (S := (fun k_ => P0_ k_)) (by repeat (first | (with_reducible first | exact HK.out | apply Kept.alloc | apply Kept.drewN | apply Kept.drew | refine Kept.setCell ?_ (.inr GW106.out) _) | exact HK.out)) hb); have n3_ := Aside0.mk (below_step (by repeat (first | (with_reducible first | exact HB.out | apply below_alloc | apply pw_below_drewN | apply below_drew1 | refine below_set ?_ GE106.out) | exact HB.out)) hb); clear HO0; clear BK106; clear HK; clear HB; have HO0 := n0_; have BK106 := n1_; have HK := n2_; have HB := n3_; clear n0_ n1_ n2_ n3_; (try clear hb); (try clear hb2); (try clear hk); (try clear hi)))
      go_meet
      case rel => exact ⟨_, (!t107), (by first | rfl | (simp; done) | (simp [*]; done)), H', ⟨by first | omega | exact Nat.le_refl _⟩, ⟨by (with_reducible repeat (first | apply Kd.R_alloc | apply Kd.R_drewN | apply Kd.R_drew)); exact HO0.out⟩, ⟨by (with_reducible repeat (first | refine blk_drewN ?_ _ | refine blk_drew ?_ | refine blk_alloc ?_ _)); exact BK106.out⟩, ⟨by repeat (first | (with_reducible first | exact HK.out | apply Kept.alloc | apply Kept.drewN | apply Kept.drew | refine Kept.setCell ?_ (.inr GW106.out) _) | exact HK.out)⟩, ⟨by repeat (first | (with_reducible first | exact HB.out | apply below_alloc | apply pw_below_drewN | apply below_drew1 | refine below_set ?_ GE106.out) | exact HB.out)⟩⟩
  case rest =>
    clear HC3
    try clear c2
    try clear p2
    try clear c5
    try clear c5b0
    try clear c5b1
    try clear hcz6_0
    try clear hcz6_1
    try clear hcz6_2
    try clear hcz8_0
    try clear hcz8_1
    try clear hcz8_2
    try clear hfz6_0
    try clear hfz6_1
    try clear hfz6_2
    try clear hfz8_0
    try clear hfz8_1
    try clear hfz8_2
    obtain ⟨kq, x20_2, rfl, HA, HJ2, HO_0, BK106, HK, HB⟩ := hcut
    cases kq with
    | zero => exact absurd HA.out (by simp [points_Put.j0])
    | succ kj2 =>
      have H := HA.out
      clear HA
      simp only [points_Put.j0] at H
      by_cases c11 : x20_2 = true
      · subst c11
        have H1 : (some (l0, 0, 1)) = some (r1, r2, r3) := by rw [if_pos rfl] at H; exact H
        clear H
        have H := H1
        clear H1
        simp only [Option.some.injEq, Prod.mk.injEq] at H
        obtain ⟨rfl, rfl, rfl⟩ := H
        go_wp2
        go_ret3
        exact ⟨_, by first | rfl | (simp [errW_none, errW_some] <;> rfl) | (simp [*, errW_none, errW_some] <;> rfl), by (with_reducible repeat (first | apply Kd.R_alloc | apply Kd.R_drewN | apply Kd.R_drew)); exact Kd.R_mono HO_0.out (fun _ hk => hk.1), by repeat (first | (with_reducible first | exact HB.out | apply below_alloc | apply pw_below_drewN | apply below_drew1 | refine below_set ?_ GE106.out) | exact HB.out), by repeat (first | (with_reducible first | exact HK.out | apply Kept.alloc | apply Kept.drewN | apply Kept.drew | refine Kept.setCell ?_ (.inr GW106.out) _) | exact HK.out)⟩
      · replace c11 := Bool.eq_false_iff.mpr c11
        subst c11
        have H1 : ((points_Find.f l0 a1_0).bind fun bt108 => (if bt108.2 = true then (if 0 ≤ bt108.1 then (if bt108.1 < (l0.length : Int) then (if ((rd_T25 l0 bt108.1).f1) = a1_1 then (points_Put.j1 kj2 l0 bt108.1 2 a1_0 a1_1 a1_2 ((rd_T25 l0 bt108.1).f0) ((rd_T25 l0 bt108.1).f1) ((rd_T25 l0 bt108.1).f2)) else ((points_Ahead.f a1_0 a1_1 a1_2 ((rd_T25 l0 bt108.1).f0) ((rd_T25 l0 bt108.1).f1) ((rd_T25 l0 bt108.1).f2)).bind fun t135 => (if t135 = true then (points_Put.j1 kj2 l0 bt108.1 3 a1_0 a1_1 a1_2 ((rd_T25 l0 bt108.1).f0) ((rd_T25 l0 bt108.1).f1) ((rd_T25 l0 bt108.1).f2)) else (points_Put.j1 kj2 l0 bt108.1 4 a1_0 a1_1 a1_2 ((rd_T25 l0 bt108.1).f0) ((rd_T25 l0 bt108.1).f1) ((rd_T25 l0 bt108.1).f2))))) else (none)) else (none)) else (if (l0.length : Int) ≥ 65536 then (some (l0, 0, 5)) else (if 0 ≤ (wrap64 ((l0.length : Int) + 1)) then (if (wrap64 ((l0.length : Int) + 1) : Int).toNat ≤ 11728124029610 then ((some (([] : List (S25)) : List (S25))).bind fun y110 => (if 0 ≤ bt108.1 then (if bt108.1 ≤ (l0.length : Int) then ((some (l0.take (bt108.1 : Int).toNat : List (S25))).bind fun y113 => (if y110.length + y113.length < 5864062014805 then ((some (y110 ++ y113 : List (S25))).bind fun y117 => ((some (([(⟨a1_0, a1_1, a1_2⟩ : S25)] : List (S25)) : List (S25))).bind fun y120 => (if y117.length + y120.length < 5864062014805 then ((some (y117 ++ y120 : List (S25))).bind fun y123 => ((some (l0.drop (bt108.1 : Int).toNat : List (S25))).bind fun y126 => (if y123.length + y126.length < 5864062014805 then (some ((y123 ++ y126), 1, 0)) else (none)))) else (none)))) else (none))) else (none)) else (none))) else (none)) else (none))))) = some (r1, r2, r3) := by rw [if_neg (show ¬ (false = true) by decide)] at H; exact H
        clear H
        have H := H1
        clear H1
        replace H := Option.bind_eq_some_iff.mp H
        obtain ⟨⟨t108, t109⟩, A120, H⟩ := H
        replace H : (if t109 = true then (if 0 ≤ t108 then (if t108 < (l0.length : Int) then (if ((rd_T25 l0 t108).f1) = a1_1 then (points_Put.j1 kj2 l0 t108 2 a1_0 a1_1 a1_2 ((rd_T25 l0 t108).f0) ((rd_T25 l0 t108).f1) ((rd_T25 l0 t108).f2)) else ((points_Ahead.f a1_0 a1_1 a1_2 ((rd_T25 l0 t108).f0) ((rd_T25 l0 t108).f1) ((rd_T25 l0 t108).f2)).bind fun t135 => (if t135 = true then (points_Put.j1 kj2 l0 t108 3 a1_0 a1_1 a1_2 ((rd_T25 l0 t108).f0) ((rd_T25 l0 t108).f1) ((rd_T25 l0 t108).f2)) else (points_Put.j1 kj2 l0 t108 4 a1_0 a1_1 a1_2 ((rd_T25 l0 t108).f0) ((rd_T25 l0 t108).f1) ((rd_T25 l0 t108).f2))))) else (none)) else (none)) else (if (l0.length : Int) ≥ 65536 then (some (l0, 0, 5)) else (if 0 ≤ (wrap64 ((l0.length : Int) + 1)) then (if (wrap64 ((l0.length : Int) + 1) : Int).toNat ≤ 11728124029610 then ((some (([] : List (S25)) : List (S25))).bind fun y110 => (if 0 ≤ t108 then (if t108 ≤ (l0.length : Int) then ((some (l0.take (t108 : Int).toNat : List (S25))).bind fun y113 => (if y110.length + y113.length < 5864062014805 then ((some (y110 ++ y113 : List (S25))).bind fun y117 => ((some (([(⟨a1_0, a1_1, a1_2⟩ : S25)] : List (S25)) : List (S25))).bind fun y120 => (if y117.length + y120.length < 5864062014805 then ((some (y117 ++ y120 : List (S25))).bind fun y123 => ((some (l0.drop (t108 : Int).toNat : List (S25))).bind fun y126 => (if y123.length + y126.length < 5864062014805 then (some ((y123 ++ y126), 1, 0)) else (none)))) else (none)))) else (none))) else (none)) else (none))) else (none)) else (none)))) = some (r1, r2, r3) := H
        have A12 := Aside0.mk A120
        clear A120
        by_cases c13 : t109 = true
        · subst c13
          have H1 : (if 0 ≤ t108 then (if t108 < (l0.length : Int) then (if ((rd_T25 l0 t108).f1) = a1_1 then (points_Put.j1 kj2 l0 t108 2 a1_0 a1_1 a1_2 ((rd_T25 l0 t108).f0) ((rd_T25 l0 t108).f1) ((rd_T25 l0 t108).f2)) else ((points_Ahead.f a1_0 a1_1 a1_2 ((rd_T25 l0 t108).f0) ((rd_T25 l0 t108).f1) ((rd_T25 l0 t108).f2)).bind fun t135 => (if t135 = true then (points_Put.j1 kj2 l0 t108 3 a1_0 a1_1 a1_2 ((rd_T25 l0 t108).f0) ((rd_T25 l0 t108).f1) ((rd_T25 l0 t108).f2)) else (points_Put.j1 kj2 l0 t108 4 a1_0 a1_1 a1_2 ((rd_T25 l0 t108).f0) ((rd_T25 l0 t108).f1) ((rd_T25 l0 t108).f2))))) else (none)) else (none)) = some (r1, r2, r3) := by rw [if_pos rfl] at H; exact H
          clear H
          have H := H1
          clear H1
          by_cases c14 : 0 ≤ t108
          rotate_left
          · rw [if_neg c14] at H
            exact absurd H (by simp)
          rw [if_pos c14] at H
          have c14b0 : decide (0 ≤ t108) = true := decide_eq_true c14
          clear c14
          by_cases c15 : t108 < (l0.length : Int)
          rotate_left
          · rw [if_neg c15] at H
            exact absurd H (by simp)
          rw [if_pos c15] at H
          have c15b0 : decide (t108 < (l0.length : Int)) = true := decide_eq_true c15
          clear c15
          have HC16 := Aside0.mk H
          clear H
          have hcz17_0 : wc.cell? ⟨gb106, 0, none⟩ = some (.int .i64 a1_0) := (blk_cell BK106.out 0).trans rfl
          have hcz17_1 : wc.cell? ⟨gb106, 1, none⟩ = some (.int .u64 a1_1) := (blk_cell BK106.out 1).trans rfl
          have hcz17_2 : wc.cell? ⟨gb106, 2, none⟩ = some (.int .u64 a1_2) := (blk_cell BK106.out 2).trans rfl
          have hfz17_0 := blk_frozen BK106.out 0
          have hfz17_1 := blk_frozen BK106.out 1
          have hfz17_2 := blk_frozen BK106.out 2
          obtain ⟨Ao18, co18, eo18⟩ := Kd.R_slice HO_0.out
          subst eo18
          go_upto_if 61 with (first | ((with_reducible refine gate_callee (f := 18) rfl ?_); refine goesL_ (some 26) rfl rfl Try.func18 (by kernel_rfl) rfl #[.slice Ao18 l0.length co18, .int .i64 a1_0] rfl (by (try simp only [List.map_toArray, List.map_cons, List.map_nil]); first | done | rfl | (simp only [List.length_drop, List.length_take]; rfl)) ?_; (with_reducible refine (points_Find.calls _ _ l0 a1_0 t108 true _ ?side1 ?side2 A12.out).mono ?_); (case side1 => repeat (first | exact (Kd.R_reads' HO_0.out).2.2 | (with_reducible refine Kd.C_alloc ?_ _) | (with_reducible refine Kd.C_drewN ?_ _) | (with_reducible refine Kd.C_drew ?_))); (case side2 => exact (Kd.R_reads' HO_0.out).2.1); rintro e w19 ⟨rfl, hb⟩; refine ⟨_, rfl, ?_⟩; have n0_ := Aside0.mk (Kd.R_below (by (with_reducible repeat (first | apply Kd.R_alloc | apply Kd.R_drewN | apply Kd.R_drew)); exact HO_0.out) hb); have n1_ := Aside0.mk (blk_below (g := gb106) (o := .cells #[.int .i64 a1_0, .int .u64 a1_1, .int .u64 a1_2] 25 (0, 0)) (by (with_reducible repeat (first | refine blk_drewN ?_ _ | refine blk_drew ?_ | refine blk_alloc ?_ _)); exact BK106.out) hb); have n2_ := Aside0.mk (Kept.below (S := (fun k_ => P0_ k_)) (by repeat (first | (with_reducible first | exact HK.out | apply Kept.alloc | apply Kept.drewN | apply Kept.drew | refine Kept.setCell ?_ (.inr GW106.out) _) | exact HK.out)) hb); have n3_ := Aside0.mk (below_step (by repeat (first | (with_reducible first | exact HB.out | apply below_alloc | apply pw_below_drewN | apply below_drew1 | refine below_set ?_ GE106.out) | exact HB.out)) hb); clear HO_0; clear BK106; clear HK; clear HB; have HO_0 := n0_; have BK106 := n1_; have HK := n2_; have HB := n3_; clear n0_ n1_ n2_ n3_; (try clear hb); (try clear hb2); (try clear hk); (try clear hi); have p133 : 0 ≤ (t108 : Int) := of_decide_eq_true (by first | (with_reducible assumption) | assumption); have q133 : t108 < (l0.length : Int) := of_decide_eq_true (by first | (with_reducible assumption) | assumption); obtain ⟨ad133, e133, hx133_0, hx133_1, hx133_2⟩ := at_T25 (Kd.R_reads' HO_0.out).2.2 t108 p133 q133; cases e133; replace p133 := eq_true p133; replace q133 := eq_true q133) | ((with_reducible refine gate_dst (N := 10) rfl ?_); refine box_event ?hg (N := 10) ?hd (cs := #[.int .i64 0, .int .u64 0, .int .u64 0]) (t := 25) ?hr ?_; (case hd => rfl); (case hg => rfl); (case hr => first | (go_simp; done) | (go_simp; rfl)); intro gb134 hg w20 hbox hb; have n0_ := Aside0.mk (Kd.R_below (Kd.R_elderB (by (with_reducible repeat (first | apply Kd.R_alloc | apply Kd.R_drewN | apply Kd.R_drew)); exact HO_0.out) gb134 (Nat.le_of_eq hg.symm)) hb); have n1_ := Aside0.mk (blk_below (g := gb106) (o := .cells #[.int .i64 a1_0, .int .u64 a1_1, .int .u64 a1_2] 25 (0, 0)) (by (with_reducible repeat (first | refine blk_drewN ?_ _ | refine blk_drew ?_ | refine blk_alloc ?_ _)); exact BK106.out) hb); have n2_ := Aside0.mk (Kept.below (S := (fun k_ => P0_ k_)) (by repeat (first | (with_reducible first | exact HK.out | apply Kept.alloc | apply Kept.drewN | apply Kept.drew | refine Kept.setCell ?_ (.inr GW106.out) _) | exact HK.out)) hb); have n3_ := Aside0.mk (below_step (by repeat (first | (with_reducible first | exact HB.out | apply below_alloc | apply pw_below_drewN | apply below_drew1 | refine below_set ?_ GE106.out) | exact HB.out)) hb); have n4_ := Aside0.mk (hbox); have n5_ := Aside0.mk ((by rw [hg]; exact (by first | exact HK.out.1 | exact (show Kept w _ (fun k_ => P0_ k_) from by repeat (first | (with_reducible first | exact HK.out | apply Kept.alloc | apply Kept.drewN | apply Kept.drew | refine Kept.setCell ?_ (.inr GW106.out) _) | exact HK.out)).1) : w.heap.size ≤ gb134)); have n6_ := Aside0.mk ((by rw [hg]; exact (below_size (by repeat (first | (with_reducible first | exact HB.out | apply below_alloc | apply pw_below_drewN | apply below_drew1 | refine below_set ?_ GE106.out) | exact HB.out))) : w0.heap.size ≤ gb134)); have n7_ := Aside0.mk ((by rw [hg]; exact Nat.ne_of_lt (blk_lt (g := gb106) (o := .cells #[.int .i64 a1_0, .int .u64 a1_1, .int .u64 a1_2] 25 (0, 0)) (by (with_reducible repeat (first | refine blk_drewN ?_ _ | refine blk_drew ?_ | refine blk_alloc ?_ _)); exact BK106.out)) : gb106 ≠ gb134)); have n8_ := Aside0.mk ((by rw [hg]; exact Nat.ne_of_gt (blk_lt (g := gb106) (o := .cells #[.int .i64 a1_0, .int .u64 a1_1, .int .u64 a1_2] 25 (0, 0)) (by (with_reducible repeat (first | refine blk_drewN ?_ _ | refine blk_drew ?_ | refine blk_alloc ?_ _)); exact BK106.out)) : gb134 ≠ gb106)); clear HO_0; clear BK106; clear HK; clear HB; have HO_0 := n0_; have BK106 := n1_; have HK := n2_; have HB := n3_; have BK134 := n4_; have GW134 := n5_; have GE134 := n6_; have NB106_134 := n7_; have NB134_106 := n8_; clear n0_ n1_ n2_ n3_ n4_ n5_ n6_ n7_ n8_; clear hb hbox hg; have hnb21 := NB134_106.out; have hnc21 := NB106_134.out; have hcz22_0 : w20.cell? ⟨gb134, 0, none⟩ = some (.int .i64 0) := (blk_cell BK134.out 0).trans rfl; have hcz22_1 : w20.cell? ⟨gb134, 1, none⟩ = some (.int .u64 0) := (blk_cell BK134.out 1).trans rfl; have hcz22_2 : w20.cell? ⟨gb134, 2, none⟩ = some (.int .u64 0) := (blk_cell BK134.out 2).trans rfl; have hfz22_0 := blk_frozen BK134.out 0; have hfz22_1 := blk_frozen BK134.out 1; have hfz22_2 := blk_frozen BK134.out 2; have hcz23_0 : w20.cell? ⟨gb106, 0, none⟩ = some (.int .i64 a1_0) := (blk_cell BK106.out 0).trans rfl; have hcz23_1 : w20.cell? ⟨gb106, 1, none⟩ = some (.int .u64 a1_1) := (blk_cell BK106.out 1).trans rfl; have hcz23_2 : w20.cell? ⟨gb106, 2, none⟩ = some (.int .u64 a1_2) := (blk_cell BK106.out 2).trans rfl; have hfz23_0 := blk_frozen BK106.out 0; have hfz23_1 := blk_frozen BK106.out 1; have hfz23_2 := blk_frozen BK106.out 2))
          (try simp only [Act.put, List.setIfInBounds_toArray, List.set_cons_zero, List.set_cons_succ])
          go_cut [11] (fun v11 wc => ∃ (kq : Nat) (x11_15 : Int), v11 = .int .i64 x11_15 ∧ Aside0 (points_Put.j1 kq l0 t108 x11_15 a1_0 a1_1 a1_2 ((rd_T25 l0 t108).f0) ((rd_T25 l0 t108).f1) ((rd_T25 l0 t108).f2) = some (r1, r2, r3)) ∧ Aside0 (kq ≤ kj2) ∧ Aside0 (Kd.R k25 25 wc w0.heap.size (fun k_ => (P0_ k_ ∨ w.heap.size ≤ k_) ∧ k_ ≠ gb106 ∧ k_ ≠ gb134) (.slice (some ad133) l0.length co18) l0) ∧ Aside0 (wc.heap[gb106]? = some (.cells #[.int .i64 a1_0, .int .u64 a1_1, .int .u64 a1_2] 25 (0, 0))) ∧ Aside0 (wc.heap[gb134]? = some (.cells #[.int .i64 ((rd_T25 l0 t108).f0), .int .u64 ((rd_T25 l0 t108).f1), .int .u64 ((rd_T25 l0 t108).f2)] 25 (0, 0))) ∧ Aside0 (Kept w wc (fun k_ => P0_ k_)) ∧ Aside0 (Below w0.heap.size w0 wc))
          case first =>
            have H := HC16.out
            clear HC16
            by_cases c24 : ((rd_T25 l0 t108).f1) = a1_1
            · rw [if_pos c24] at H
              have c24b0 : (((rd_T25 l0 t108).f1) == a1_1) = true := beq_iff_eq.mpr c24
              have c24b1 : (((rd_T25 l0 t108).f1) != a1_1) = false := bne_eq_false_iff_eq.mpr c24
              clear c24
              (first | rw [c24b0] | (simp only [i64_w, i32_w, xu32_w, xu8_w]; rw [c24b0]) | skip)
              have H' := Aside0.mk H
              clear H
              go_wp2
              go_meet
              case rel => exact ⟨_, (2), (by first | rfl | (simp; done) | (simp [*]; done)), H', ⟨by have := HJ2.out; first | omega | exact Nat.le_refl _⟩, ⟨by (with_reducible repeat (first | apply Kd.R_alloc | apply Kd.R_drewN | apply Kd.R_drew)); exact Kd.R_mono (Kd.R_far (p := ⟨gb134, 2, none⟩) (Kd.R_far (p := ⟨gb134, 1, none⟩) (Kd.R_far (p := ⟨gb134, 0, none⟩) (Kd.R_mono HO_0.out (fun k_ hk => (⟨hk, hk.2⟩ : _ ∧ k_ ≠ gb134))) (fun _ hk => hk.2) (.int .i64 ((rd_T25 l0 t108).f0))) (fun _ hk => hk.2) (.int .u64 ((rd_T25 l0 t108).f1))) (fun _ hk => hk.2) (.int .u64 ((rd_T25 l0 t108).f2))) (fun _ hk => ⟨hk.1.1.1, ⟨hk.1.1.2, hk.1.2⟩⟩)⟩, ⟨by (with_reducible repeat (first | refine blk_drewN ?_ _ | refine blk_drew ?_ | refine blk_alloc ?_ _)); refine blk_far ?_ NB106_134.out _; (with_reducible repeat (first | refine blk_drewN ?_ _ | refine blk_drew ?_ | refine blk_alloc ?_ _)); refine blk_far ?_ NB106_134.out _; (with_reducible repeat (first | refine blk_drewN ?_ _ | refine blk_drew ?_ | refine blk_alloc ?_ _)); refine blk_far ?_ NB106_134.out _; (with_reducible repeat (first | refine blk_drewN ?_ _ | refine blk_drew ?_ | refine blk_alloc ?_ _)); exact BK106.out⟩, ⟨by (with_reducible repeat (first | refine blk_drewN ?_ _ | refine blk_drew ?_ | refine blk_alloc ?_ _)); refine blk_put (cs := #[.int .i64 ((rd_T25 l0 t108).f0), .int .u64 ((rd_T25 l0 t108).f1), .int .u64 0]) ?_ 2 _ rfl; (with_reducible repeat (first | refine blk_drewN ?_ _ | refine blk_drew ?_ | refine blk_alloc ?_ _)); refine blk_put (cs := #[.int .i64 ((rd_T25 l0 t108).f0), .int .u64 0, .int .u64 0]) ?_ 1 _ rfl; (with_reducible repeat (first | refine blk_drewN ?_ _ | refine blk_drew ?_ | refine blk_alloc ?_ _)); refine blk_put (cs := #[.int .i64 0, .int .u64 0, .int .u64 0]) ?_ 0 _ rfl; (with_reducible repeat (first | refine blk_drewN ?_ _ | refine blk_drew ?_ | refine blk_alloc ?_ _)); exact BK134.out⟩, ⟨by repeat (first | (with_reducible first | exact HK.out | apply Kept.alloc | apply Kept.drewN | apply Kept.drew | refine Kept.setCell ?_ (.inr GW106.out) _ | refine Kept.setCell ?_ (.inr GW134.out) _) | exact HK.out)⟩, ⟨by repeat (first | (with_reducible first | exact HB.out | apply below_alloc | apply pw_below_drewN | apply below_drew1 | refine below_set ?_ GE106.out | refine below_set ?_ GE134.out) | exact HB.out)⟩⟩
            · rw [if_neg c24] at H
              have c24b0 : (((rd_T25 l0 t108).f1) == a1_1) = false := beq_eq_false_iff_ne.mpr c24
              have c24b1 : (((rd_T25 l0 t108).f1) != a1_1) = true := bne_iff_ne.mpr c24
              (first | rw [c24b0] | (simp only [i64_w, i32_w, xu32_w, xu8_w]; rw [c24b0]) | skip)
              replace H := Option.bind_eq_some_iff.mp H
              obtain ⟨t135, A250, H⟩ := H
              replace H : (if t135 = true then (points_Put.j1 kj2 l0 t108 3 a1_0 a1_1 a1_2 ((rd_T25 l0 t108).f0) ((rd_T25 l0 t108).f1) ((rd_T25 l0 t108).f2)) else (points_Put.j1 kj2 l0 t108 4 a1_0 a1_1 a1_2 ((rd_T25 l0 t108).f0) ((rd_T25 l0 t108).f1) ((rd_T25 l0 t108).f2))) = some (r1, r2, r3) := H
              have A25 := Aside0.mk A250
              clear A250
              by_cases c26 : t135 = true
              · subst c26
                have H1 : (points_Put.j1 kj2 l0 t108 3 a1_0 a1_1 a1_2 ((rd_T25 l0 t108).f0) ((rd_T25 l0 t108).f1) ((rd_T25 l0 t108).f2)) = some (r1, r2, r3) := by rw [if_pos rfl] at H; exact H
                clear H
                have H := H1
                clear H1
                have H' := Aside0.mk H
                clear H
                have hnb27 := NB106_134.out
                have hnc27 := NB134_106.out
                have hcz28_0 : w20.cell? ⟨gb106, 0, none⟩ = some (.int .i64 a1_0) := (blk_cell BK106.out 0).trans rfl
                have hcz28_1 : w20.cell? ⟨gb106, 1, none⟩ = some (.int .u64 a1_1) := (blk_cell BK106.out 1).trans rfl
                have hcz28_2 : w20.cell? ⟨gb106, 2, none⟩ = some (.int .u64 a1_2) := (blk_cell BK106.out 2).trans rfl
                have hfz28_0 := blk_frozen BK106.out 0
                have hfz28_1 := blk_frozen BK106.out 1
                have hfz28_2 := blk_frozen BK106.out 2
                have hcz29_0 : w20.cell? ⟨gb134, 0, none⟩ = some (.int .i64 0) := (blk_cell BK134.out 0).trans rfl
                have hcz29_1 : w20.cell? ⟨gb134, 1, none⟩ = some (.int .u64 0) := (blk_cell BK134.out 1).trans rfl
                have hcz29_2 : w20.cell? ⟨gb134, 2, none⟩ = some (.int .u64 0) := (blk_cell BK134.out 2).trans rfl
                have hfz29_0 := blk_frozen BK134.out 0
                have hfz29_1 := blk_frozen BK134.out 1
                have hfz29_2 := blk_frozen BK134.out 2
                go_wp2_with (first | ((with_reducible refine gate_callee (f := 16) rfl ?_); refine goesL_ (some 64) rfl rfl Try.func16 (by kernel_rfl) rfl #[.agg #[.int .i64 a1_0, .int .u64 a1_1, .int .u64 a1_2], .agg #[.int .i64 ((rd_T25 l0 t108).f0), .int .u64 ((rd_T25 l0 t108).f1), .int .u64 ((rd_T25 l0 t108).f2)]] rfl (by (try simp only [List.map_toArray, List.map_cons, List.map_nil]); first | done | rfl | (simp only [List.length_drop, List.length_take]; rfl)) ?_; (with_reducible refine (points_Ahead.calls a1_0 a1_1 a1_2 ((rd_T25 l0 t108).f0) ((rd_T25 l0 t108).f1) ((rd_T25 l0 t108).f2) true _ A25.out).mono ?_); rintro e w30 ⟨rfl, hb⟩; refine ⟨_, rfl, ?_⟩; have n0_ := Aside0.mk (Kd.R_below (by (with_reducible repeat (first | apply Kd.R_alloc | apply Kd.R_drewN | apply Kd.R_drew)); exact (Kd.R_mono (Kd.R_far (p := ⟨gb134, 2, none⟩) (Kd.R_far (p := ⟨gb134, 1, none⟩) (Kd.R_far (p := ⟨gb134, 0, none⟩) (Kd.R_mono HO_0.out (fun k_ hk => (⟨hk, hk.2⟩ : _ ∧ k_ ≠ gb134))) (fun _ hk => hk.2) (.int .i64 ((rd_T25 l0 t108).f0))) (fun _ hk => hk.2) (.int .u64 ((rd_T25 l0 t108).f1))) (fun _ hk => hk.2) (.int .u64 ((rd_T25 l0 t108).f2))) (fun _ h_ => h_.1))) hb); have n1_ := Aside0.mk (blk_below (g := gb106) (o := .cells #[.int .i64 a1_0, .int .u64 a1_1, .int .u64 a1_2] 25 (0, 0)) (by (with_reducible repeat (first | refine blk_drewN ?_ _ | refine blk_drew ?_ | refine blk_alloc ?_ _)); refine blk_far ?_ NB106_134.out _; (with_reducible repeat (first | refine blk_drewN ?_ _ | refine blk_drew ?_ | refine blk_alloc ?_ _)); refine blk_far ?_ NB106_134.out _; (with_reducible repeat (first | refine blk_drewN ?_ _ | refine blk_drew ?_ | refine blk_alloc ?_ _)); refine blk_far ?_ NB106_134.out _; (with_reducible repeat (first | refine blk_drewN ?_ _ | refine blk_drew ?_ | refine blk_alloc ?_ _)); exact BK106.out) hb); have n2_ := Aside0.mk (blk_below (g := gb134) (o := .cells #[.int .i64 ((rd_T25 l0 t108).f0), .int .u64 ((rd_T25 l0 t108).f1), .int .u64 ((rd_T25 l0 t108).f2)] 25 (0, 0)) (by (with_reducible repeat (first | refine blk_drewN ?_ _ | refine blk_drew ?_ | refine blk_alloc ?_ _)); refine blk_put (cs := #[.int .i64 ((rd_T25 l0 t108).f0), .int .u64 ((rd_T25 l0 t108).f1), .int .u64 0]) ?_ 2 _ rfl; (with_reducible repeat (first | refine blk_drewN ?_ _ | refine blk_drew ?_ | refine blk_alloc ?_ _)); refine blk_put (cs := #[.int .i64 ((rd_T25 l0 t108).f0), .int .u64 0, .int .u64 0]) ?_ 1 _ rfl; (with_reducible repeat (first | refine blk_drewN ?_ _ | refine blk_drew ?_ | refine blk_alloc ?_ _)); refine blk_put (cs := #[.int .i64 0, .int .u64 0, .int .u64 0]) ?_ 0 _ rfl; (with_reducible repeat (first | refine blk_drewN ?_ _ | refine blk_drew ?_ | refine blk_alloc ?_ _)); exact BK134.out) hb); have n3_ := Aside0.mk (Kept.below (S := (fun k_ => P0_ k_)) (by repeat (first | (with_reducible first | exact HK.out | apply Kept.alloc | apply Kept.drewN | apply Kept.drew | refine Kept.setCell ?_ (.inr GW106.out) _ | refine Kept.setCell ?_ (.inr GW134.out) _) | exact HK.out)) hb); have n4_ := Aside0.mk (below_step (by repeat (first | (with_reducible first | exact HB.out | apply below_alloc | apply pw_below_drewN | apply below_drew1 | refine below_set ?_ GE106.out | refine below_set ?_ GE134.out) | exact HB.out)) hb); clear HO_0; clear BK106; clear BK134; clear HK; clear HB; have HO_0 := n0_; have BK106 := n1_; have BK134 := n2_; have HK := n3_; have HB := n4_; clear n0_ n1_ n2_ n3_ n4_; (try clear hb); (try clear hb2); (try clear hk); (try clear hi)))
                go_meet
                case rel => exact ⟨_, (3), (by first | rfl | (simp; done) | (simp [*]; done)), H', ⟨by have := HJ2.out; first | omega | exact Nat.le_refl _⟩, ⟨by (with_reducible repeat (first | apply Kd.R_alloc | apply Kd.R_drewN | apply Kd.R_drew)); exact Kd.R_mono HO_0.out (fun _ hk => ⟨hk.1.1, ⟨hk.1.2, hk.2⟩⟩)⟩, ⟨by (with_reducible repeat (first | refine blk_drewN ?_ _ | refine blk_drew ?_ | refine blk_alloc ?_ _)); exact BK106.out⟩, ⟨by (with_reducible repeat (first | refine blk_drewN ?_ _ | refine blk_drew ?_ | refine blk_alloc ?_ _)); exact BK134.out⟩, ⟨by repeat (first | (with_reducible first | exact HK.out | apply Kept.alloc | apply Kept.drewN | apply Kept.drew | refine Kept.setCell ?_ (.inr GW106.out) _ | refine Kept.setCell ?_ (.inr GW134.out) _) | exact HK.out)⟩, ⟨by repeat (first | (with_reducible first | exact HB.out | apply below_alloc | apply pw_below_drewN | apply below_drew1 | refine below_set ?_ GE106.out | refine below_set ?_ GE134.out) | exact HB.out)⟩⟩
              · replace c26 := Bool.eq_false_iff.mpr c26
                subst c26
                have H1 : (points_Put.j1 kj2 l0 t108 4 a1_0 a1_1 a1_2 ((rd_T25 l0 t108).f0) ((rd_T25 l0 t108).f1) ((rd_T25 l0 t108).f2)) = some (r1, r2, r3) := by rw [if_neg (show ¬ (false = true) by decide)] at H; exact H
                clear H
                have H := H1
                clear H1
                have H' := Aside0.mk H
                clear H
                have hnb31 := NB106_134.out
                have hnc31 := NB134_106.out
                have hcz32_0 : w20.cell? ⟨gb106, 0, none⟩ = some (.int .i64 a1_0) := (blk_cell BK106.out 0).trans rfl
                have hcz32_1 : w20.cell? ⟨gb106, 1, none⟩ = some (.int .u64 a1_1) := (blk_cell BK106.out 1).trans rfl
                have hcz32_2 : w20.cell? ⟨gb106, 2, none⟩ = some (.int .u64 a1_2) := (blk_cell BK106.out 2).trans rfl
                have hfz32_0 := blk_frozen BK106.out 0
                have hfz32_1 := blk_frozen BK106.out 1
                have hfz32_2 := blk_frozen BK106.out 2
                have hcz33_0 : w20.cell? ⟨gb134, 0, none⟩ = some (.int .i64 0) := (blk_cell BK134.out 0).trans rfl
                have hcz33_1 : w20.cell? ⟨gb134, 1, none⟩ = some (.int .u64 0) := (blk_cell BK134.out 1).trans rfl
                have hcz33_2 : w20.cell? ⟨gb134, 2, none⟩ = some (.int .u64 0) := (blk_cell BK134.out 2).trans rfl
                have hfz33_0 := blk_frozen BK134.out 0
                have hfz33_1 := blk_frozen BK134.out 1
                have hfz33_2 := blk_frozen BK134.out 2
                go_wp2_with (first | ((with_reducible refine gate_callee (f := 16) rfl ?_); refine goesL_ (some 64) rfl rfl Try.func16 (by kernel_rfl) rfl #[.agg #[.int .i64 a1_0, .int .u64 a1_1, .int .u64 a1_2], .agg #[.int .i64 ((rd_T25 l0 t108).f0), .int .u64 ((rd_T25 l0 t108).f1), .int .u64 ((rd_T25 l0 t108).f2)]] rfl (by (try simp only [List.map_toArray, List.map_cons, List.map_nil]); first | done | rfl | (simp only [List.length_drop, List.length_take]; rfl)) ?_; (with_reducible refine (points_Ahead.calls a1_0 a1_1 a1_2 ((rd_T25 l0 t108).f0) ((rd_T25 l0 t108).f1) ((rd_T25 l0 t108).f2) false _ A25.out).mono ?_); rintro e w34 ⟨rfl, hb⟩; refine ⟨_, rfl, ?_⟩; have n0_ := Aside0.mk (Kd.R_below (by (with_reducible repeat (first | apply Kd.R_alloc | apply Kd.R_drewN | apply Kd.R_drew)); exact (Kd.R_mono (Kd.R_far (p := ⟨gb134, 2, none⟩) (Kd.R_far (p := ⟨gb134, 1, none⟩) (Kd.R_far (p := ⟨gb134, 0, none⟩) (Kd.R_mono HO_0.out (fun k_ hk => (⟨hk, hk.2⟩ : _ ∧ k_ ≠ gb134))) (fun _ hk => hk.2) (.int .i64 ((rd_T25 l0 t108).f0))) (fun _ hk => hk.2) (.int .u64 ((rd_T25 l0 t108).f1))) (fun _ hk => hk.2) (.int .u64 ((rd_T25 l0 t108).f2))) (fun _ h_ => h_.1))) hb); have n1_ := Aside0.mk (blk_below (g := gb106) (o := .cells #[.int .i64 a1_0, .int .u64 a1_1, .int .u64 a1_2] 25 (0, 0)) (by (with_reducible repeat (first | refine blk_drewN ?_ _ | refine blk_drew ?_ | refine blk_alloc ?_ _)); refine blk_far ?_ NB106_134.out _; (with_reducible repeat (first | refine blk_drewN ?_ _ | refine blk_drew ?_ | refine blk_alloc ?_ _)); refine blk_far ?_ NB106_134.out _; (with_reducible repeat (first | refine blk_drewN ?_ _ | refine blk_drew ?_ | refine blk_alloc ?_ _)); refine blk_far ?_ NB106_134.out _; (with_reducible repeat (first | refine blk_drewN ?_ _ | refine blk_drew ?_ | refine blk_alloc ?_ _)); exact BK106.out) hb); have n2_ := Aside0.mk (blk_below (g := gb134) (o := .cells #[.int .i64 ((rd_T25 l0 t108).f0), .int .u64 ((rd_T25 l0 t108).f1), .int .u64 ((rd_T25 l0 t108).f2)] 25 (0, 0)) (by (with_reducible repeat (first | refine blk_drewN ?_ _ | refine blk_drew ?_ | refine blk_alloc ?_ _)); refine blk_put (cs := #[.int .i64 ((rd_T25 l0 t108).f0), .int .u64 ((rd_T25 l0 t108).f1), .int .u64 0]) ?_ 2 _ rfl; (with_reducible repeat (first | refine blk_drewN ?_ _ | refine blk_drew ?_ | refine blk_alloc ?_ _)); refine blk_put (cs := #[.int .i64 ((rd_T25 l0 t108).f0), .int .u64 0, .int .u64 0]) ?_ 1 _ rfl; (with_reducible repeat (first | refine blk_drewN ?_ _ | refine blk_drew ?_ | refine blk_alloc ?_ _)); refine blk_put (cs := #[.int .i64 0, .int .u64 0, .int .u64 0]) ?_ 0 _ rfl; (with_reducible repeat (first | refine blk_drewN ?_ _ | refine blk_drew ?_ | refine blk_alloc ?_ _)); exact BK134.out) hb); have n3_ := Aside0.mk (Kept.below (S := (fun k_ => P0_ k_)) (by repeat (first | (with_reducible first | exact HK.out | apply Kept.alloc | apply Kept.drewN | apply Kept.drew | refine Kept.setCell ?_ (.inr GW106.out) _ | refine Kept.setCell ?_ (.inr GW134.out) _) | exact HK.out)) hb); have n4_ := Aside0.mk (below_step (by repeat (first | (with_reducible first | exact HB.out | apply below_alloc | apply pw_below_drewN | apply below_drew1 | refine below_set ?_ GE106.out | refine below_set ?_ GE134.out) | exact HB.out)) hb); clear HO_0; clear BK106; clear BK134; clear HK; clear HB; have HO_0 := n0_; have BK106 := n1_; have BK134 := n2_; have HK := n3_; have HB := n4_; clear n0_ n1_ n2_ n3_ n4_; (try clear hb); (try clear hb2); (try clear hk); (try clear hi)))
                go_meet
                case rel => exact ⟨_, (4), (by first | rfl | (simp; done) | (simp [*]; done)), H', ⟨by have := HJ2.out; first | omega | exact Nat.le_refl _⟩, ⟨by (with_reducible repeat (first | apply Kd.R_alloc | apply Kd.R_drewN | apply Kd.R_drew)); exact Kd.R_mono HO_0.out (fun _ hk => ⟨hk.1.1, ⟨hk.1.2, hk.2⟩⟩)⟩, ⟨by (with_reducible repeat (first | refine blk_drewN ?_ _ | refine blk_drew ?_ | refine blk_alloc ?_ _)); exact BK106.out⟩, ⟨by (with_reducible repeat (first | refine blk_drewN ?_ _ | refine blk_drew ?_ | refine blk_alloc ?_ _)); exact BK134.out⟩, ⟨by repeat (first | (with_reducible first | exact HK.out | apply Kept.alloc | apply Kept.drewN | apply Kept.drew | refine Kept.setCell ?_ (.inr GW106.out) _ | refine Kept.setCell ?_ (.inr GW134.out) _) | exact HK.out)⟩, ⟨by repeat (first | (with_reducible first | exact HB.out | apply below_alloc | apply pw_below_drewN | apply below_drew1 | refine below_set ?_ GE106.out | refine below_set ?_ GE134.out) | exact HB.out)⟩⟩
          case rest =>
            clear HC16
            try clear c1
            try clear p1
            try clear q1
            try clear hx1
            try clear c2
            try clear p2
            try clear c3
            try clear c5
            try clear c5b0
            try clear c5b1
            try clear p6
            try clear c11
            try clear c13
            try clear p13
            try clear q13
            try clear hx13
            try clear c14
            try clear c14b0
            try clear c15
            try clear c15b0
            try clear c16
            try clear c18
            try clear c21
            try clear c24
            try clear c24b0
            try clear c24b1
            try clear c26
            try clear c27
            try clear c31
            try clear hcz17_0
            try clear hcz17_1
            try clear hcz17_2
            try clear hcz22_0
            try clear hcz22_1
            try clear hcz22_2
            try clear hcz23_0
            try clear hcz23_1
            try clear hcz23_2
            try clear hcz28_0
            try clear hcz28_1
            try clear hcz28_2
            try clear hcz29_0
            try clear hcz29_1
            try clear hcz29_2
            try clear hcz32_0
            try clear hcz32_1
            try clear hcz32_2
            try clear hcz33_0
            try clear hcz33_1
            try clear hcz33_2
            try clear hcz6_0
            try clear hcz6_1
            try clear hcz6_2
            try clear hcz8_0
            try clear hcz8_1
            try clear hcz8_2
            try clear hfz17_0
            try clear hfz17_1
            try clear hfz17_2
            try clear hfz22_0
            try clear hfz22_1
            try clear hfz22_2
            try clear hfz23_0
            try clear hfz23_1
            try clear hfz23_2
            try clear hfz28_0
            try clear hfz28_1
            try clear hfz28_2
            try clear hfz29_0
            try clear hfz29_1
            try clear hfz29_2
            try clear hfz32_0
            try clear hfz32_1
            try clear hfz32_2
            try clear hfz33_0
            try clear hfz33_1
            try clear hfz33_2
            try clear hfz6_0
            try clear hfz6_1
            try clear hfz6_2
            try clear hfz8_0
            try clear hfz8_1
            try clear hfz8_2
            try clear hx133_0
            try clear hx133_1
            try clear hx133_2
            try clear p133
            try clear p2
            try clear q133
            obtain ⟨kq, x11_15, rfl, HA, HJ15, HO_0, BK106, BK134, HK, HB⟩ := hcut
            cases kq with
            | zero => exact absurd HA.out (by simp [points_Put.j1])
            | succ kj15 =>
              have H := HA.out
              clear HA
              simp only [points_Put.j1] at H
              have HC35 := Aside0.mk H
              clear H
              go_upto_region 16 with (fail)
              go_cut [73] (fun v73 wc => ∃ (kq : Nat) (x73_34 : Bool), v73 = .bool x73_34 ∧ Aside0 (points_Put.j2 kq l0 t108 x11_15 x73_34 a1_0 a1_1 a1_2 = some (r1, r2, r3)) ∧ Aside0 (kq ≤ kj15) ∧ Aside0 (Kd.R k25 25 wc w0.heap.size (fun k_ => (P0_ k_ ∨ w.heap.size ≤ k_) ∧ k_ ≠ gb106 ∧ k_ ≠ gb134) (.slice (some ad133) l0.length co18) l0) ∧ Aside0 (wc.heap[gb106]? = some (.cells #[.int .i64 a1_0, .int .u64 a1_1, .int .u64 a1_2] 25 (0, 0))) ∧ Aside0 (wc.heap[gb134]? = some (.cells #[.int .i64 ((rd_T25 l0 t108).f0), .int .u64 ((rd_T25 l0 t108).f1), .int .u64 ((rd_T25 l0 t108).f2)] 25 (0, 0))) ∧ Aside0 (Kept w wc (fun k_ => P0_ k_)) ∧ Aside0 (Below w0.heap.size w0 wc))
              case first =>
                have H := HC35.out
                clear HC35
                by_cases c36 : a1_0 = ((rd_T25 l0 t108).f0)
                · rw [if_pos c36] at H
                  have c36b0 : (a1_0 == ((rd_T25 l0 t108).f0)) = true := beq_iff_eq.mpr c36
                  have c36b1 : (a1_0 != ((rd_T25 l0 t108).f0)) = false := bne_eq_false_iff_eq.mpr c36
                  clear c36
                  (first | rw [c36b0] | (simp only [i64_w, i32_w, xu32_w, xu8_w]; rw [c36b0]) | skip)
                  by_cases c37 : a1_1 = ((rd_T25 l0 t108).f1)
                  · rw [if_pos c37] at H
                    have c37b0 : (a1_1 == ((rd_T25 l0 t108).f1)) = true := beq_iff_eq.mpr c37
                    have c37b1 : (a1_1 != ((rd_T25 l0 t108).f1)) = false := bne_eq_false_iff_eq.mpr c37
                    clear c37
                    by_cases c38 : a1_2 = ((rd_T25 l0 t108).f2)
                    · rw [if_pos c38] at H
                      have c38b0 : (a1_2 == ((rd_T25 l0 t108).f2)) = true := beq_iff_eq.mpr c38
                      have c38b1 : (a1_2 != ((rd_T25 l0 t108).f2)) = false := bne_eq_false_iff_eq.mpr c38
                      clear c38
                      have H' := Aside0.mk H
                      clear H
                      have hnb39 := NB106_134.out
                      have hnc39 := NB134_106.out
                      have hcz40_0 : wc.cell? ⟨gb106, 0, none⟩ = some (.int .i64 a1_0) := (blk_cell BK106.out 0).trans rfl
                      have hcz40_1 : wc.cell? ⟨gb106, 1, none⟩ = some (.int .u64 a1_1) := (blk_cell BK106.out 1).trans rfl
                      have hcz40_2 : wc.cell? ⟨gb106, 2, none⟩ = some (.int .u64 a1_2) := (blk_cell BK106.out 2).trans rfl
                      have hfz40_0 := blk_frozen BK106.out 0
                      have hfz40_1 := blk_frozen BK106.out 1
                      have hfz40_2 := blk_frozen BK106.out 2
                      have hcz41_0 : wc.cell? ⟨gb134, 0, none⟩ = some (.int .i64 ((rd_T25 l0 t108).f0)) := (blk_cell BK134.out 0).trans rfl
                      have hcz41_1 : wc.cell? ⟨gb134, 1, none⟩ = some (.int .u64 ((rd_T25 l0 t108).f1)) := (blk_cell BK134.out 1).trans rfl
                      have hcz41_2 : wc.cell? ⟨gb134, 2, none⟩ = some (.int .u64 ((rd_T25 l0 t108).f2)) := (blk_cell BK134.out 2).trans rfl
                      have hfz41_0 := blk_frozen BK134.out 0
                      have hfz41_1 := blk_frozen BK134.out 1
                      have hfz41_2 := blk_frozen BK134.out 2
                      go_wp2
                      go_meet
                      case rel => exact ⟨_, (true), (by first | rfl | (simp; done) | (simp [*]; done)), H', ⟨by have := HJ2.out; have := HJ15.out; first | omega | exact Nat.le_refl _⟩, ⟨by (with_reducible repeat (first | apply Kd.R_alloc | apply Kd.R_drewN | apply Kd.R_drew)); exact HO_0.out⟩, ⟨by (with_reducible repeat (first | refine blk_drewN ?_ _ | refine blk_drew ?_ | refine blk_alloc ?_ _)); exact BK106.out⟩, ⟨by (with_reducible repeat (first | refine blk_drewN ?_ _ | refine blk_drew ?_ | refine blk_alloc ?_ _)); exact BK134.out⟩, ⟨by repeat (first | (with_reducible first | exact HK.out | apply Kept.alloc | apply Kept.drewN | apply Kept.drew | refine Kept.setCell ?_ (.inr GW106.out) _ | refine Kept.setCell ?_ (.inr GW134.out) _) | exact HK.out)⟩, ⟨by repeat (first | (with_reducible first | exact HB.out | apply below_alloc | apply pw_below_drewN | apply below_drew1 | refine below_set ?_ GE106.out | refine below_set ?_ GE134.out) | exact HB.out)⟩⟩
                    · rw [if_neg c38] at H
                      have c38b0 : (a1_2 == ((rd_T25 l0 t108).f2)) = false := beq_eq_false_iff_ne.mpr c38
                      have c38b1 : (a1_2 != ((rd_T25 l0 t108).f2)) = true := bne_iff_ne.mpr c38
                      replace H := Option.bind_eq_some_iff.mp H
                      obtain ⟨t136, A420, H⟩ := H
                      replace H : (points_Put.j2 kj15 l0 t108 x11_15 (!t136) a1_0 a1_1 a1_2) = some (r1, r2, r3) := H
                      have A42 := Aside0.mk A420
                      clear A420
                      have H' := Aside0.mk H
                      clear H
                      have hnb43 := NB106_134.out
                      have hnc43 := NB134_106.out
                      have hcz44_0 : wc.cell? ⟨gb106, 0, none⟩ = some (.int .i64 a1_0) := (blk_cell BK106.out 0).trans rfl
                      have hcz44_1 : wc.cell? ⟨gb106, 1, none⟩ = some (.int .u64 a1_1) := (blk_cell BK106.out 1).trans rfl
                      have hcz44_2 : wc.cell? ⟨gb106, 2, none⟩ = some (.int .u64 a1_2) := (blk_cell BK106.out 2).trans rfl
                      have hfz44_0 := blk_frozen BK106.out 0
                      have hfz44_1 := blk_frozen BK106.out 1
                      have hfz44_2 := blk_frozen BK106.out 2
                      have hcz45_0 : wc.cell? ⟨gb134, 0, none⟩ = some (.int .i64 ((rd_T25 l0 t108).f0)) := (blk_cell BK134.out 0).trans rfl
                      have hcz45_1 : wc.cell? ⟨gb134, 1, none⟩ = some (.int .u64 ((rd_T25 l0 t108).f1)) := (blk_cell BK134.out 1).trans rfl
                      have hcz45_2 : wc.cell? ⟨gb134, 2, none⟩ = some (.int .u64 ((rd_T25 l0 t108).f2)) := (blk_cell BK134.out 2).trans rfl
                      have hfz45_0 := blk_frozen BK134.out 0
                      have hfz45_1 := blk_frozen BK134.out 1
                      have hfz45_2 := blk_frozen BK134.out 2
                      go_wp2_with (first | (go_at_call 16; (with_reducible refine (points_Ahead.calls a1_0 a1_1 a1_2 ((rd_T25 l0 t108).f0) ((rd_T25 l0 t108).f1) ((rd_T25 l0 t108).f2) t136 _ A42.out).mono ?_); rintro e w46 ⟨rfl, hb⟩; have n0_ := Aside0.mk (Kd.R_below (by (with_reducible repeat (first | apply Kd.R_alloc | apply Kd.R_drewN | apply Kd.R_drew)); exact HO_0.out) hb); have n1_ := Aside0.mk (blk_below (g := gb106) (o := .cells #[.int .i64 a1_0, .int .u64 a1_1, .int .u64 a1_2] 25 (0, 0)) (by (with_reducible repeat (first | refine blk_drewN ?_ _ | refine blk_drew ?_ | refine blk_alloc ?_ _)); exact BK106.out) hb); have n2_ := Aside0.mk (blk_below (g := gb134) (o := .cells #[.int .i64 ((rd_T25 l0 t108).f0), .int .u64 ((rd_T25 l0 t108).f1), .int .u64 ((rd_T25 l0 t108).f2)] 25 (0, 0)) (by (with_reducible repeat (first | refine blk_drewN ?_ _ | refine blk_drew ?_ | refine blk_alloc ?_ _)); exact BK134.out) hb); have n3_ := Aside0.mk (Kept.below (S := (fun k_ => P0_ k_)) (by repeat (first | (with_reducible first | exact HK.out | apply Kept.alloc | apply Kept.drewN | apply Kept.drew | refine Kept.setCell ?_ (.inr GW106.out) _ | refine Kept.setCell ?_ (.inr GW134.out) _) | exact HK.out)) hb); have n4_ := Aside0.mk (below_step (by repeat (first | (with_reducible first | exact HB.out | apply below_alloc | apply pw_below_drewN | apply below_drew1 | refine below_set ?_ GE106.out | refine below_set ?_ GE134.out) | exact HB.out)) hb); clear HO_0; clear BK106; clear BK134; clear HK; clear HB; have HO_0 := n0_; have BK106 := n1_; have BK134 := n2_; have HK := n3_; have HB := n4_; clear n0_ n1_ n2_ n3_ n4_; (try clear hb); (try clear hb2); (try clear hk); (try clear hi)))
                      go_meet
                      case rel => exact ⟨_, (!t136), (by first | rfl | (simp; done) | (simp [*]; done)), H', ⟨by have := HJ2.out; have := HJ15.out; first | omega | exact Nat.le_refl _⟩, ⟨by (with_reducible repeat (first | apply Kd.R_alloc | apply Kd.R_drewN | apply Kd.R_drew)); exact HO_0.out⟩, ⟨by (with_reducible repeat (first | refine blk_drewN ?_ _ | refine blk_drew ?_ | refine blk_alloc ?_ _)); exact BK106.out⟩, ⟨by (with_reducible repeat (first | refine blk_drewN ?_ _ | refine blk_drew ?_ | refine blk_alloc ?_ _)); exact BK134.out⟩, ⟨by repeat (first | (with_reducible first | exact HK.out | apply Kept.alloc | apply Kept.drewN | apply Kept.drew | refine Kept.setCell ?_ (.inr GW106.out) _ | refine Kept.setCell ?_ (.inr GW134.out) _) | exact HK.out)⟩, ⟨by repeat (first | (with_reducible first | exact HB.out | apply below_alloc | apply pw_below_drewN | apply below_drew1 | refine below_set ?_ GE106.out | refine below_set ?_ GE134.out) | exact HB.out)⟩⟩
                  · rw [if_neg c37] at H
                    have c37b0 : (a1_1 == ((rd_T25 l0 t108).f1)) = false := beq_eq_false_iff_ne.mpr c37
                    have c37b1 : (a1_1 != ((rd_T25 l0 t108).f1)) = true := bne_iff_ne.mpr c37
                    replace H := Option.bind_eq_some_iff.mp H
                    obtain ⟨t137, A470, H⟩ := H
                    replace H : (points_Put.j2 kj15 l0 t108 x11_15 (!t137) a1_0 a1_1 a1_2) = some (r1, r2, r3) := H
                    have A47 := Aside0.mk A470
                    clear A470
                    have H' := Aside0.mk H
                    clear H
                    have hnb48 := NB106_134.out
                    have hnc48 := NB134_106.out
                    have hcz49_0 : wc.cell? ⟨gb106, 0, none⟩ = some (.int .i64 a1_0) := (blk_cell BK106.out 0).trans rfl
                    have hcz49_1 : wc.cell? ⟨gb106, 1, none⟩ = some (.int .u64 a1_1) := (blk_cell BK106.out 1).trans rfl
                    have hcz49_2 : wc.cell? ⟨gb106, 2, none⟩ = some (.int .u64 a1_2) := (blk_cell BK106.out 2).trans rfl
                    have hfz49_0 := blk_frozen BK106.out 0
                    have hfz49_1 := blk_frozen BK106.out 1
                    have hfz49_2 := blk_frozen BK106.out 2
                    have hcz50_0 : wc.cell? ⟨gb134, 0, none⟩ = some (.int .i64 ((rd_T25 l0 t108).f0)) := (blk_cell BK134.out 0).trans rfl
                    have hcz50_1 : wc.cell? ⟨gb134, 1, none⟩ = some (.int .u64 ((rd_T25 l0 t108).f1)) := (blk_cell BK134.out 1).trans rfl
                    have hcz50_2 : wc.cell? ⟨gb134, 2, none⟩ = some (.int .u64 ((rd_T25 l0 t108).f2)) := (blk_cell BK134.out 2).trans rfl
                    have hfz50_0 := blk_frozen BK134.out 0
                    have hfz50_1 := blk_frozen BK134.out 1
                    have hfz50_2 := blk_frozen BK134.out 2
                    go_wp2_with (first | (go_at_call 16; (with_reducible refine (points_Ahead.calls a1_0 a1_1 a1_2 ((rd_T25 l0 t108).f0) ((rd_T25 l0 t108).f1) ((rd_T25 l0 t108).f2) t137 _ A47.out).mono ?_); rintro e w51 ⟨rfl, hb⟩; have n0_ := Aside0.mk (Kd.R_below (by (with_reducible repeat (first | apply Kd.R_alloc | apply Kd.R_drewN | apply Kd.R_drew)); exact HO_0.out) hb); have n1_ := Aside0.mk (blk_below (g := gb106) (o := .cells #[.int .i64 a1_0, .int .u64 a1_1, .int .u64 a1_2] 25 (0, 0)) (by (with_reducible repeat (first | refine blk_drewN ?_ _ | refine blk_drew ?_ | refine blk_alloc ?_ _)); exact BK106.out) hb); have n2_ := Aside0.mk (blk_below (g := gb134) (o := .cells #[.int .i64 ((rd_T25 l0 t108).f0), .int .u64 ((rd_T25 l0 t108).f1), .int .u64 ((rd_T25 l0 t108).f2)] 25 (0, 0)) (by (with_reducible repeat (first | refine blk_drewN ?_ _ | refine blk_drew ?_ | refine blk_alloc ?_ _)); exact BK134.out) hb); have n3_ := Aside0.mk (Kept.below (S := (fun k_ => P0_ k_)) (by repeat (first | (with_reducible first | exact HK.out | apply Kept.alloc | apply Kept.drewN | apply Kept.drew | refine Kept.setCell ?_ (.inr GW106.out) _ | refine Kept.setCell ?_ (.inr GW134.out) _) | exact HK.out)) hb); have n4_ := Aside0.mk (below_step (by repeat (first | (with_reducible first | exact HB.out | apply below_alloc | apply pw_below_drewN | apply below_drew1 | refine below_set ?_ GE106.out | refine below_set ?_ GE134.out) | exact HB.out)) hb); clear HO_0; clear BK106; clear BK134; clear HK; clear HB; have HO_0 := n0_; have BK106 := n1_; have BK134 := n2_; have HK := n3_; have HB := n4_; clear n0_ n1_ n2_ n3_ n4_; (try clear hb); (try clear hb2); (try clear hk); (try clear hi)))
                    go_meet
                    case rel => exact ⟨_, (!t137), (by first | rfl | (simp; done) | (simp [*]; done)), H', ⟨by have := HJ2.out; have := HJ15.out; first | omega | exact Nat.le_refl _⟩, ⟨by (with_reducible repeat (first | apply Kd.R_alloc | apply Kd.R_drewN | apply Kd.R_drew)); exact HO_0.out⟩, ⟨by (with_reducible repeat (first | refine blk_drewN ?_ _ | refine blk_drew ?_ | refine blk_alloc ?_ _)); exact BK106.out⟩, ⟨by (with_reducible repeat (first | refine blk_drewN ?_ _ | refine blk_drew ?_ | refine blk_alloc ?_ _)); exact BK134.out⟩, ⟨by repeat (first | (with_reducible first | exact HK.out | apply Kept.alloc | apply Kept.drewN | apply Kept.drew | refine Kept.setCell ?_ (.inr GW106.out) _ | refine Kept.setCell ?_ (.inr GW134.out) _) | exact HK.out)⟩, ⟨by repeat (first | (with_reducible first | exact HB.out | apply below_alloc | apply pw_below_drewN | apply below_drew1 | refine below_set ?_ GE106.out | refine below_set ?_ GE134.out) | exact HB.out)⟩⟩
                · rw [if_neg c36] at H
                  have c36b0 : (a1_0 == ((rd_T25 l0 t108).f0)) = false := beq_eq_false_iff_ne.mpr c36
                  have c36b1 : (a1_0 != ((rd_T25 l0 t108).f0)) = true := bne_iff_ne.mpr c36
                  (first | rw [c36b0] | (simp only [i64_w, i32_w, xu32_w, xu8_w]; rw [c36b0]) | skip)
                  replace H := Option.bind_eq_some_iff.mp H
                  obtain ⟨t138, A520, H⟩ := H
                  replace H : (points_Put.j2 kj15 l0 t108 x11_15 (!t138) a1_0 a1_1 a1_2) = some (r1, r2, r3) := H
                  have A52 := Aside0.mk A520
                  clear A520
                  have H' := Aside0.mk H
                  clear H
                  have hnb53 := NB106_134.out
                  have hnc53 := NB134_106.out
                  have hcz54_0 : wc.cell? ⟨gb106, 0, none⟩ = some (.int .i64 a1_0) := (blk_cell BK106.out 0).trans rfl
                  have hcz54_1 : wc.cell? ⟨gb106, 1, none⟩ = some (.int .u64 a1_1) := (blk_cell BK106.out 1).trans rfl
                  have hcz54_2 : wc.cell? ⟨gb106, 2, none⟩ = some (.int .u64 a1_2) := (blk_cell BK106.out 2).trans rfl
                  have hfz54_0 := blk_frozen BK106.out 0
                  have hfz54_1 := blk_frozen BK106.out 1
                  have hfz54_2 := blk_frozen BK106.out 2
                  have hcz55_0 : wc.cell? ⟨gb134, 0, none⟩ = some (.int .i64 ((rd_T25 l0 t108).f0)) := (blk_cell BK134.out 0).trans rfl
                  have hcz55_1 : wc.cell? ⟨gb134, 1, none⟩ = some (.int .u64 ((rd_T25 l0 t108).f1)) := (blk_cell BK134.out 1).trans rfl
                  have hcz55_2 : wc.cell? ⟨gb134, 2, none⟩ = some (.int .u64 ((rd_T25 l0 t108).f2)) := (blk_cell BK134.out 2).trans rfl
                  have hfz55_0 := blk_frozen BK134.out 0
                  have hfz55_1 := blk_frozen BK134.out 1
                  have hfz55_2 := blk_frozen BK134.out 2
                  go_wp2_with (first | (go_at_call 16; (with_reducible refine (points_Ahead.calls a1_0 a1_1 a1_2 ((rd_T25 l0 t108).f0) ((rd_T25 l0 t108).f1) ((rd_T25 l0 t108).f2) t138 _ A52.out).mono ?_); rintro e w56 ⟨rfl, hb⟩; have n0_ := Aside0.mk (Kd.R_below (by (with_reducible repeat (first | apply Kd.R_alloc | apply Kd.R_drewN | apply Kd.R_drew)); exact HO_0.out) hb); have n1_ := Aside0.mk (blk_below (g := gb106) (o := .cells #[.int .i64 a1_0, .int .u64 a1_1, .int .u64 a1_2] 25 (0, 0)) (by (with_reducible repeat (first | refine blk_drewN ?_ _ | refine blk_drew ?_ | refine blk_alloc ?_ _)); exact BK106.out) hb); have n2_ := Aside0.mk (blk_below (g := gb134) (o := .cells #[.int .i64 ((rd_T25 l0 t108).f0), .int .u64 ((rd_T25 l0 t108).f1), .int .u64 ((rd_T25 l0 t108).f2)] 25 (0, 0)) (by (with_reducible repeat (first | refine blk_drewN ?_ _ | refine blk_drew ?_ | refine blk_alloc ?_ _)); exact BK134.out) hb); have n3_ := Aside0.mk (Kept.below (S := (fun k_ => P0_ k_)) (by repeat (first | (with_reducible first | exact HK.out | apply Kept.alloc | apply Kept.drewN | apply Kept.drew | refine Kept.setCell ?_ (.inr GW106.out) _ | refine Kept.setCell ?_ (.inr GW134.out) _) | exact HK.out)) hb); have n4_ := Aside0.mk (below_step (by repeat (first | (with_reducible first | exact HB.out | apply below_alloc | apply pw_below_drewN | apply below_drew1 | refine below_set ?_ GE106.out | refine below_set ?_ GE134.out) | exact HB.out)) hb); clear HO_0; clear BK106; clear BK134; clear HK; clear HB; have HO_0 := n0_; have BK106 := n1_; have BK134 := n2_; have HK := n3_; have HB := n4_; clear n0_ n1_ n2_ n3_ n4_; (try clear hb); (try clear hb2); (try clear hk); (try clear hi)))
                  go_meet
                  case rel => exact ⟨_, (!t138), (by first | rfl | (simp; done) | (simp [*]; done)), H', ⟨by have := HJ2.out; have := HJ15.out; first | omega | exact Nat.le_refl _⟩, ⟨by (with_reducible repeat (first | apply Kd.R_alloc | apply Kd.R_drewN | apply Kd.R_drew)); exact HO_0.out⟩, ⟨by (with_reducible repeat (first | refine blk_drewN ?_ _ | refine blk_drew ?_ | refine blk_alloc ?_ _)); exact BK106.out⟩, ⟨by (with_reducible repeat (first | refine blk_drewN ?_ _ | refine blk_drew ?_ | refine blk_alloc ?_ _)); exact BK134.out⟩, ⟨by repeat (first | (with_reducible first | exact HK.out | apply Kept.alloc | apply Kept.drewN | apply Kept.drew | refine Kept.setCell ?_ (.inr GW106.out) _ | refine Kept.setCell ?_ (.inr GW134.out) _) | exact HK.out)⟩, ⟨by repeat (first | (with_reducible first | exact HB.out | apply below_alloc | apply pw_below_drewN | apply below_drew1 | refine below_set ?_ GE106.out | refine below_set ?_ GE134.out) | exact HB.out)⟩⟩
              case rest =>
                clear HC35
                try clear c1
                try clear p1
                try clear q1
                try clear hx1
                try clear c2
                try clear p2
                try clear c3
                try clear c4
                try clear c5
                try clear c5b0
                try clear c5b1
                try clear p6
                try clear c11
                try clear c13
                try clear p13
                try clear q13
                try clear hx13
                try clear c14
                try clear c14b0
                try clear c15
                try clear c15b0
                try clear c16
                try clear c18
                try clear c21
                try clear c24
                try clear c24b0
                try clear c24b1
                try clear c26
                try clear c27
                try clear c31
                try clear c36
                try clear c36b0
                try clear c36b1
                try clear c37
                try clear c37b0
                try clear c37b1
                try clear c38
                try clear c38b0
                try clear c38b1
                try clear c39
                try clear c43
                try clear c48
                try clear c53
                try clear hcz17_0
                try clear hcz17_1
                try clear hcz17_2
                try clear hcz22_0
                try clear hcz22_1
                try clear hcz22_2
                try clear hcz23_0
                try clear hcz23_1
                try clear hcz23_2
                try clear hcz28_0
                try clear hcz28_1
                try clear hcz28_2
                try clear hcz29_0
                try clear hcz29_1
                try clear hcz29_2
                try clear hcz32_0
                try clear hcz32_1
                try clear hcz32_2
                try clear hcz33_0
                try clear hcz33_1
                try clear hcz33_2
                try clear hcz40_0
                try clear hcz40_1
                try clear hcz40_2
                try clear hcz41_0
                try clear hcz41_1
                try clear hcz41_2
                try clear hcz44_0
                try clear hcz44_1
                try clear hcz44_2
                try clear hcz45_0
                try clear hcz45_1
                try clear hcz45_2
                try clear hcz49_0
                try clear hcz49_1
                try clear hcz49_2
                try clear hcz50_0
                try clear hcz50_1
                try clear hcz50_2
                try clear hcz54_0
                try clear hcz54_1
                try clear hcz54_2
                try clear hcz55_0
                try clear hcz55_1
                try clear hcz55_2
                try clear hcz6_0
                try clear hcz6_1
                try clear hcz6_2
                try clear hcz8_0
                try clear hcz8_1
                try clear hcz8_2
                try clear hfz17_0
                try clear hfz17_1
                try clear hfz17_2
                try clear hfz22_0
                try clear hfz22_1
                try clear hfz22_2
                try clear hfz23_0
                try clear hfz23_1
                try clear hfz23_2
                try clear hfz28_0
                try clear hfz28_1
                try clear hfz28_2
                try clear hfz29_0
                try clear hfz29_1
                try clear hfz29_2
                try clear hfz32_0
                try clear hfz32_1
                try clear hfz32_2
                try clear hfz33_0
                try clear hfz33_1
                try clear hfz33_2
                try clear hfz40_0
                try clear hfz40_1
                try clear hfz40_2
                try clear hfz41_0
                try clear hfz41_1
                try clear hfz41_2
                try clear hfz44_0
                try clear hfz44_1
                try clear hfz44_2
                try clear hfz45_0
                try clear hfz45_1
                try clear hfz45_2
                try clear hfz49_0
                try clear hfz49_1
                try clear hfz49_2
                try clear hfz50_0
                try clear hfz50_1
                try clear hfz50_2
                try clear hfz54_0
                try clear hfz54_1
                try clear hfz54_2
                try clear hfz55_0
                try clear hfz55_1
                try clear hfz55_2
                try clear hfz6_0
                try clear hfz6_1
                try clear hfz6_2
                try clear hfz8_0
                try clear hfz8_1
                try clear hfz8_2
                try clear hx133_0
                try clear hx133_1
                try clear hx133_2
                try clear p1
                try clear p13
                try clear p133
                try clear p2
                try clear p6
                try clear q1
                try clear q13
                try clear q133
                obtain ⟨kq, x73_34, rfl, HA, HJ34, HO_0, BK106, BK134, HK, HB⟩ := hcut
                cases kq with
                | zero => exact absurd HA.out (by simp [points_Put.j2])
                | succ kj34 =>
                  have H := HA.out
                  clear HA
                  simp only [points_Put.j2] at H
                  by_cases c57 : x73_34 = true
                  · subst c57
                    have H1 : (some (l0, x11_15, 0)) = some (r1, r2, r3) := by rw [if_pos rfl] at H; exact H
                    clear H
                    have H := H1
                    clear H1
                    simp only [Option.some.injEq, Prod.mk.injEq] at H
                    obtain ⟨rfl, rfl, rfl⟩ := H
                    go_wp2
                    go_ret3
                    exact ⟨_, by first | rfl | (simp [errW_none, errW_some] <;> rfl) | (simp [*, errW_none, errW_some] <;> rfl), by (with_reducible repeat (first | apply Kd.R_alloc | apply Kd.R_drewN | apply Kd.R_drew)); exact Kd.R_mono HO_0.out (fun _ hk => hk.1), by repeat (first | (with_reducible first | exact HB.out | apply below_alloc | apply pw_below_drewN | apply below_drew1 | refine below_set ?_ GE106.out | refine below_set ?_ GE134.out) | exact HB.out), by repeat (first | (with_reducible first | exact HK.out | apply Kept.alloc | apply Kept.drewN | apply Kept.drew | refine Kept.setCell ?_ (.inr GW106.out) _ | refine Kept.setCell ?_ (.inr GW134.out) _) | exact HK.out)⟩
                  · replace c57 := Bool.eq_false_iff.mpr c57
                    subst c57
                    have H1 : ((some (([] : List (S25)) : List (S25))).bind fun y139 => (if y139.length + l0.length < 5864062014805 then ((some (y139 ++ l0 : List (S25))).bind fun y142 => (if 0 ≤ t108 then (if t108 < (y142.length : Int) then (some ((y142.set (t108 : Int).toNat (⟨a1_0, a1_1, a1_2⟩ : S25)), x11_15, 0)) else (none)) else (none))) else (none))) = some (r1, r2, r3) := by rw [if_neg (show ¬ (false = true) by decide)] at H; exact H
                    clear H
                    have H := H1
                    clear H1
                    obtain ⟨y139, hy139⟩ : ∃ y_ : List (S25), y_ = (([] : List (S25))) := ⟨_, rfl⟩
                    replace H : (if y139.length + l0.length < 5864062014805 then ((some (y139 ++ l0 : List (S25))).bind fun y142 => (if 0 ≤ t108 then (if t108 < (y142.length : Int) then (some ((y142.set (t108 : Int).toNat (⟨a1_0, a1_1, a1_2⟩ : S25)), x11_15, 0)) else (none)) else (none))) else (none)) = some (r1, r2, r3) := by first | (rw [hy139]; with_reducible exact H) | (have H2_ := (Option.bind_some _ _).symm.trans H; rw [hy139]; with_reducible exact H2_) | (have H2_ := (Option.bind_some _ _).symm.trans H; with_reducible exact H2_) | with_reducible exact H | (rw [hy139]; exact H) | exact H
                    have Ny139 := Aside0.mk hy139
                    clear hy139
                    by_cases c58 : y139.length + l0.length < 5864062014805
                    rotate_left
                    · rw [if_neg c58] at H
                      exact absurd H (by simp)
                    rw [if_pos c58] at H
                    have LMc58 := Aside0.mk c58
                    clear c58
                    obtain ⟨y142, hy142⟩ : ∃ y_ : List (S25), y_ = (y139 ++ l0) := ⟨_, rfl⟩
                    replace H : (if 0 ≤ t108 then (if t108 < (y142.length : Int) then (some ((y142.set (t108 : Int).toNat (⟨a1_0, a1_1, a1_2⟩ : S25)), x11_15, 0)) else (none)) else (none)) = some (r1, r2, r3) := by first | (rw [hy142]; with_reducible exact H) | (have H2_ := (Option.bind_some _ _).symm.trans H; rw [hy142]; with_reducible exact H2_) | (have H2_ := (Option.bind_some _ _).symm.trans H; with_reducible exact H2_) | with_reducible exact H | (rw [hy142]; exact H) | exact H
                    have Ny142 := Aside0.mk hy142
                    clear hy142
                    by_cases c59 : 0 ≤ t108
                    rotate_left
                    · rw [if_neg c59] at H
                      exact absurd H (by simp)
                    rw [if_pos c59] at H
                    have c59b0 : decide (0 ≤ t108) = true := decide_eq_true c59
                    clear c59
                    by_cases c60 : t108 < (y142.length : Int)
                    rotate_left
                    · rw [if_neg c60] at H
                      exact absurd H (by simp)
                    rw [if_pos c60] at H
                    have c60b0 : decide (t108 < (y142.length : Int)) = true := decide_eq_true c60
                    clear c60
                    obtain ⟨y145, hy145⟩ : ∃ y_ : List (S25), y_ = (y142.set (t108 : Int).toNat (⟨a1_0, a1_1, a1_2⟩ : S25)) := ⟨_, rfl⟩
                    replace H : (some (y145, x11_15, 0)) = some (r1, r2, r3) := by first | (rw [hy145]; with_reducible exact H) | (have H2_ := (Option.bind_some _ _).symm.trans H; rw [hy145]; with_reducible exact H2_) | (have H2_ := (Option.bind_some _ _).symm.trans H; with_reducible exact H2_) | with_reducible exact H | (rw [hy145]; exact H) | exact H
                    have Ny145 := Aside0.mk hy145
                    clear hy145
                    simp only [Option.some.injEq, Prod.mk.injEq] at H
                    obtain ⟨rfl, rfl, rfl⟩ := H
                    go_wp2_with (first | ((with_reducible refine gate_dst (N := 76) rfl ?_); refine Kd.R_lit k25 _ 25 ?hg (N := 76) ?hd (xs := ([] : List (S25))) (inner := []) (ok := fun _ => True) (okp := fun _ => True) ?hr ?hp (fun _ hk => hk) trivial (Below.refl _ _) (Nat.le_refl _) (by simp) ?_; (case hd => rfl); (case hg => rfl); (case hr => first | (go_simp; done) | (go_simp; rfl)); (case hp => exact (Reps.none _ _)); intro v140 w62 ho63 hb hg_ hnew_; clear hg_ hnew_; (first | rw [← Ny139.out] at ho63 | (simp only [Int.reduceToNat] at ho63; rw [← Ny139.out] at ho63)); have n0_ := Aside0.mk (Kd.R_elder' (by (with_reducible repeat (first | apply Kd.R_alloc | apply Kd.R_drewN | apply Kd.R_drew)); exact HO_0.out) (Kd.R_base ho63) hb); have n1_ := Aside0.mk (Kd.R_lower (Kd.R_newB (Kd.R_newB (Kd.R_new' (Kd.R_newM (M := fun k_ => (P0_ k_ ∨ w.heap.size ≤ k_)) ho63 (by first | exact HK.out.1 | exact (show Kept w _ (fun k_ => P0_ k_) from by repeat (first | (with_reducible first | exact HK.out | apply Kept.alloc | apply Kept.drewN | apply Kept.drew | refine Kept.setCell ?_ (.inr GW106.out) _ | refine Kept.setCell ?_ (.inr GW134.out) _) | exact HK.out)).1) (fun k_ h_ => .inr h_)) (Kd.R_lt (by (with_reducible repeat (first | apply Kd.R_alloc | apply Kd.R_drewN | apply Kd.R_drew)); exact HO_0.out))) (g := gb106) (o := .cells #[.int .i64 a1_0, .int .u64 a1_1, .int .u64 a1_2] 25 (0, 0)) (by (with_reducible repeat (first | refine blk_drewN ?_ _ | refine blk_drew ?_ | refine blk_alloc ?_ _)); exact BK106.out)) (g := gb134) (o := .cells #[.int .i64 ((rd_T25 l0 t108).f0), .int .u64 ((rd_T25 l0 t108).f1), .int .u64 ((rd_T25 l0 t108).f2)] 25 (0, 0)) (by (with_reducible repeat (first | refine blk_drewN ?_ _ | refine blk_drew ?_ | refine blk_alloc ?_ _)); exact BK134.out)) (below_size (by repeat (first | (with_reducible first | exact HB.out | apply below_alloc | apply pw_below_drewN | apply below_drew1 | refine below_set ?_ GE106.out | refine below_set ?_ GE134.out) | exact HB.out)))); have n2_ := Aside0.mk (blk_below (g := gb106) (o := .cells #[.int .i64 a1_0, .int .u64 a1_1, .int .u64 a1_2] 25 (0, 0)) (by (with_reducible repeat (first | refine blk_drewN ?_ _ | refine blk_drew ?_ | refine blk_alloc ?_ _)); exact BK106.out) hb); have n3_ := Aside0.mk (blk_below (g := gb134) (o := .cells #[.int .i64 ((rd_T25 l0 t108).f0), .int .u64 ((rd_T25 l0 t108).f1), .int .u64 ((rd_T25 l0 t108).f2)] 25 (0, 0)) (by (with_reducible repeat (first | refine blk_drewN ?_ _ | refine blk_drew ?_ | refine blk_alloc ?_ _)); exact BK134.out) hb); have n4_ := Aside0.mk (Kept.below (S := (fun k_ => P0_ k_)) (by repeat (first | (with_reducible first | exact HK.out | apply Kept.alloc | apply Kept.drewN | apply Kept.drew | refine Kept.setCell ?_ (.inr GW106.out) _ | refine Kept.setCell ?_ (.inr GW134.out) _) | exact HK.out)) hb); have n5_ := Aside0.mk (below_step (by repeat (first | (with_reducible first | exact HB.out | apply below_alloc | apply pw_below_drewN | apply below_drew1 | refine below_set ?_ GE106.out | refine below_set ?_ GE134.out) | exact HB.out)) hb); clear HO_0; clear BK106; clear BK134; clear HK; clear HB; have HO_0 := n0_; have HO141 := n1_; have BK106 := n2_; have BK134 := n3_; have HK := n4_; have HB := n5_; clear n0_ n1_ n2_ n3_ n4_ n5_; clear hb ho63) | ((with_reducible refine gate_builtin (b := .append) (xs := #[.tmp 76, .tmp 77]) rfl ?_); at_builtin; refine Kd.R_append_rows k25 (w0 := w0) w0.heap.size rfl (.tmp 76) (.tmp 77) 22 25 (.agg #[(.int .i64 0), (.int .u64 0), (.int .u64 0)]) 24 rfl Try.underlying22 info25 rfl (by decide) (by omega) v140 y139 l0 _ _ _ (fun k_ => (P0_ k_ ∨ w.heap.size ≤ k_) ∧ some k_ ≠ (.slice (some ad133) l0.length co18 : Value).ownBlock ∧ k_ ≠ gb106 ∧ k_ ≠ gb134) (fun _ => False) rfl rfl ?aO ?aR (fun _ _ h => h) (fun _ h => h.elim) ?aF ?aB ?aS ?aL ?_; (case aR => repeat (first | exact (Kd.R_reads' HO_0.out).2.2 | (with_reducible refine Kd.C_alloc ?_ _) | (with_reducible refine Kd.C_drewN ?_ _) | (with_reducible refine Kd.C_drew ?_))); (case aB => exact (by repeat (first | (with_reducible first | exact HB.out | apply below_alloc | apply pw_below_drewN | apply below_drew1 | refine below_set ?_ GE106.out | refine below_set ?_ GE134.out) | exact HB.out))); (case aF => exact (fun k_ hk => ⟨(.inr (Nat.le_trans (by first | exact HK.out.1 | exact (show Kept w _ (fun k_ => P0_ k_) from by repeat (first | (with_reducible first | exact HK.out | apply Kept.alloc | apply Kept.drewN | apply Kept.drew | refine Kept.setCell ?_ (.inr GW106.out) _ | refine Kept.setCell ?_ (.inr GW134.out) _) | exact HK.out)).1) hk)), Kd.fresh' (Kd.R_lt (by (with_reducible repeat (first | apply Kd.R_alloc | apply Kd.R_drewN | apply Kd.R_drew)); exact HO_0.out)) k_ hk, Kd.freshB (g := gb106) (o := .cells #[.int .i64 a1_0, .int .u64 a1_1, .int .u64 a1_2] 25 (0, 0)) (by (with_reducible repeat (first | refine blk_drewN ?_ _ | refine blk_drew ?_ | refine blk_alloc ?_ _)); exact BK106.out) k_ hk, Kd.freshB (g := gb134) (o := .cells #[.int .i64 ((rd_T25 l0 t108).f0), .int .u64 ((rd_T25 l0 t108).f1), .int .u64 ((rd_T25 l0 t108).f2)] 25 (0, 0)) (by (with_reducible repeat (first | refine blk_drewN ?_ _ | refine blk_drew ?_ | refine blk_alloc ?_ _)); exact BK134.out) k_ hk⟩)); (case aO => exact (by (with_reducible repeat (first | apply Kd.R_alloc | apply Kd.R_drewN | apply Kd.R_drew)); exact Kd.R_mono HO141.out (fun _ hk => ⟨hk.1.1.1.1, ⟨hk.1.1.2, ⟨hk.1.2, hk.2⟩⟩⟩))); (case aS => exact (below_size (by repeat (first | (with_reducible first | exact HB.out | apply below_alloc | apply pw_below_drewN | apply below_drew1 | refine below_set ?_ GE106.out | refine below_set ?_ GE134.out) | exact HB.out)))); (case aL => have := LMc58.out; omega); intro v143 w64 ho hb hg hat; rw [← Ny142.out] at ho; have n0_ := Aside0.mk (Kd.R_after (ok := (fun k_ => (P0_ k_ ∨ w.heap.size ≤ k_) ∧ k_ ≠ gb106 ∧ k_ ≠ gb134)) (by (with_reducible repeat (first | apply Kd.R_alloc | apply Kd.R_drewN | apply Kd.R_drew)); exact HO_0.out) hg hat); have n1_ := Aside0.mk (blk_grown (g := gb106) (o := .cells #[.int .i64 a1_0, .int .u64 a1_1, .int .u64 a1_2] 25 (0, 0)) (by (with_reducible repeat (first | refine blk_drewN ?_ _ | refine blk_drew ?_ | refine blk_alloc ?_ _)); exact BK106.out) hg (Kd.R_away HO141.out (fun _ hk => hk.1.2))); have n2_ := Aside0.mk (blk_grown (g := gb134) (o := .cells #[.int .i64 ((rd_T25 l0 t108).f0), .int .u64 ((rd_T25 l0 t108).f1), .int .u64 ((rd_T25 l0 t108).f2)] 25 (0, 0)) (by (with_reducible repeat (first | refine blk_drewN ?_ _ | refine blk_drew ?_ | refine blk_alloc ?_ _)); exact BK134.out) hg (Kd.R_away HO141.out (fun _ hk => hk.2))); have n3_ := Aside0.mk (hb); have n4_ := Aside0.mk (Kept.of_grown (S := (fun k_ => P0_ k_)) hg (by repeat (first | (with_reducible first | exact HK.out | apply Kept.alloc | apply Kept.drewN | apply Kept.drew | refine Kept.setCell ?_ (.inr GW106.out) _ | refine Kept.setCell ?_ (.inr GW134.out) _) | exact HK.out)) (fun k_ e_ => (HO141.out.1 k_ e_).1.1.1.1)); have n5_ := Aside0.mk (ho); clear HO_0; clear BK106; clear BK134; clear HB; clear HK; clear HO141; have HO_0 := n0_; have BK106 := n1_; have BK134 := n2_; have HB := n3_; have HK := n4_; have HO144 := n5_; clear n0_ n1_ n2_ n3_ n4_ n5_; clear ho hb hg hat; have hnb65 := NB106_134.out; have hnc65 := NB134_106.out; have hcz66_0 : w64.cell? ⟨gb106, 0, none⟩ = some (.int .i64 a1_0) := (blk_cell BK106.out 0).trans rfl; have hcz66_1 : w64.cell? ⟨gb106, 1, none⟩ = some (.int .u64 a1_1) := (blk_cell BK106.out 1).trans rfl; have hcz66_2 : w64.cell? ⟨gb106, 2, none⟩ = some (.int .u64 a1_2) := (blk_cell BK106.out 2).trans rfl; have hfz66_0 := blk_frozen BK106.out 0; have hfz66_1 := blk_frozen BK106.out 1; have hfz66_2 := blk_frozen BK106.out 2; have p61 : 0 ≤ (t108 : Int) := of_decide_eq_true (by first | (with_reducible assumption) | assumption); have q61 : (t108 : Int) < ((y142.length : Int) : Int) := of_decide_eq_true (by first | (with_reducible assumption) | assumption); obtain ⟨go61, co61, eo61, gb61, gl61, cl61, HG61⟩ := Kd.R_form HO144.out (by omega); (first | cases eo61 | (injection eo61 with ea_ en_ ec_; (first | subst ea_ | (injection ea_ with ea_; subst ea_)); subst ec_; clear en_)); have GB61 := Aside0.mk gb61; have GG61 := Aside0.mk HG61; clear gb61 gl61 HG61; have HMgo61 := Aside0.mk (show (P0_ go61 ∨ w.heap.size ≤ go61) from (HO144.out.1 _ rfl).1); obtain ⟨ce61, hcl61, hM61, hcc61, hfr61⟩ := Kd.R_elem HO144.out z25 (t108 : Int) p61 q61; obtain rfl := k25_openM hM61; have hx61_0 : w64.cell? ⟨go61, (t108 : Int).toNat * 3, none⟩ = some (.int .i64 ((rd_T25 y142 t108).f0)) := hcc61 0 _ rfl; have hx61_1 : w64.cell? ⟨go61, (t108 : Int).toNat * 3 + 1, none⟩ = some (.int .u64 ((rd_T25 y142 t108).f1)) := hcc61 1 _ rfl; have hx61_2 : w64.cell? ⟨go61, (t108 : Int).toNat * 3 + 2, none⟩ = some (.int .u64 ((rd_T25 y142 t108).f2)) := hcc61 2 _ rfl; have hf61_0 : w64.frozen? ⟨go61, (t108 : Int).toNat * 3, none⟩ = false := hfr61 0; have hf61_1 : w64.frozen? ⟨go61, (t108 : Int).toNat * 3 + 1, none⟩ = false := hfr61 1; have hf61_2 : w64.frozen? ⟨go61, (t108 : Int).toNat * 3 + 2, none⟩ = false := hfr61 2; clear hcl61 hcc61 hfr61 hM61; replace p61 := eq_true p61; replace q61 := eq_true q61; have HX67 := Aside0.mk (show Kd.R k25 25 w64 w0.heap.size (fun k_ => (P0_ k_ ∨ w.heap.size ≤ k_) ∧ some k_ ≠ (.slice (some ad133) l0.length co18 : Value).ownBlock ∧ k_ ≠ gb106 ∧ k_ ≠ gb134) (.slice (some ⟨go61, 0, none⟩) y142.length co61) y142 from (by (with_reducible repeat (first | apply Kd.R_alloc | apply Kd.R_drewN | apply Kd.R_drew)); exact HO144.out)); obtain ⟨ce67, hcl67, hM67, hcc67, hfr67⟩ := Kd.R_elem HX67.out z25 (t108 : Int) (of_decide_eq_true (by first | (with_reducible assumption) | assumption)) (by have h_ : (t108 : Int) < ((y142.length : Int) : Int) := of_decide_eq_true (by first | (with_reducible assumption) | assumption); first | exact h_ | (have e_ := (Kd.R_reads' HO144.out).1; omega) | simpa using h_); obtain rfl := k25_openM hM67; have HP67 := Kd.R_seg HX67.out (t108 : Int) (of_decide_eq_true (by first | (with_reducible assumption) | assumption)) (by have h_ : (t108 : Int) < ((y142.length : Int) : Int) := of_decide_eq_true (by first | (with_reducible assumption) | assumption); first | exact h_ | (have e_ := (Kd.R_reads' HO144.out).1; omega) | simpa using h_) (seg := [.int .i64 a1_0, .int .u64 a1_1, .int .u64 a1_2]) (j := 0) hcl67 hcc67 (show 3 ≤ 3 from by decide) (x' := (⟨a1_0, a1_1, a1_2⟩ : S25)) (k25_mkM _ _ _ (⟨a1_0, a1_1, a1_2⟩ : S25) ) (fun _ hk => hk); have hx67_0 := hcc67 0 _ rfl; (try simp only [show (k25).sz = 3 from rfl, Nat.mul_one, Nat.add_zero] at hx67_0); have hf67_0 := hfr67 0; (try simp only [show (k25).sz = 3 from rfl, Nat.mul_one, Nat.add_zero] at hf67_0); have hx67_1 := hcc67 1 _ rfl; (try simp only [show (k25).sz = 3 from rfl, Nat.mul_one, Nat.add_zero] at hx67_1); have hf67_1 := hfr67 1; (try simp only [show (k25).sz = 3 from rfl, Nat.mul_one, Nat.add_zero] at hf67_1); have hx67_2 := hcc67 2 _ rfl; (try simp only [show (k25).sz = 3 from rfl, Nat.mul_one, Nat.add_zero] at hx67_2); have hf67_2 := hfr67 2; (try simp only [show (k25).sz = 3 from rfl, Nat.mul_one, Nat.add_zero] at hf67_2); clear hcl67 hcc67 hfr67 hM67) | ((with_reducible refine gate_store (t := 25) (p := 82) rfl ?_); refine store_event (t := 25) (p := 82) (v := ?vo_w68) (w1 := (((w64.setCell ⟨go61, (t108 : Int).toNat * 3, none⟩ (.int .i64 a1_0)).setCell ⟨go61, (t108 : Int).toNat * 3 + 1, none⟩ (.int .u64 a1_1)).setCell ⟨go61, (t108 : Int).toNat * 3 + 2, none⟩ (.int .u64 a1_2))) ?hg ?ho ?hn ?hr ?_; (case ho => rfl); (case hg => rfl); (case hn => rfl); (case hr => first | (go_simp; done) | (go_simp; rfl)); intro w68 hw; have hg : w64.grownBy w68 (some go61) := (by rw [hw]; exact HP67.2); have hp_ : Kd.R k25 25 w68 w0.heap.size (fun k_ => (P0_ k_ ∨ w.heap.size ≤ k_) ∧ some k_ ≠ (.slice (some ad133) l0.length co18 : Value).ownBlock ∧ k_ ≠ gb106 ∧ k_ ≠ gb134) (.slice (some ⟨go61, 0, none⟩) y142.length co61) y145 := (by rw [hw, Ny145.out]; exact HP67.1); clear HP67; have n0_ := Aside0.mk (Kd.R_after (v := (.slice (some ⟨go61, 0, none⟩) y142.length co61)) (v1 := (.slice (some ⟨go61, 0, none⟩) y142.length co61)) (ok := (fun k_ => (P0_ k_ ∨ w.heap.size ≤ k_) ∧ k_ ≠ gb106 ∧ k_ ≠ gb134)) (by (with_reducible repeat (first | apply Kd.R_alloc | apply Kd.R_drewN | apply Kd.R_drew)); exact HO_0.out) hg (.inl rfl)); have n1_ := Aside0.mk (blk_grown (g := gb106) (o := .cells #[.int .i64 a1_0, .int .u64 a1_1, .int .u64 a1_2] 25 (0, 0)) (by (with_reducible repeat (first | refine blk_drewN ?_ _ | refine blk_drew ?_ | refine blk_alloc ?_ _)); exact BK106.out) hg (Kd.R_away HO144.out (fun _ hk => hk.2.2.1))); have n2_ := Aside0.mk (blk_grown (g := gb134) (o := .cells #[.int .i64 ((rd_T25 l0 t108).f0), .int .u64 ((rd_T25 l0 t108).f1), .int .u64 ((rd_T25 l0 t108).f2)] 25 (0, 0)) (by (with_reducible repeat (first | refine blk_drewN ?_ _ | refine blk_drew ?_ | refine blk_alloc ?_ _)); exact BK134.out) hg (Kd.R_away HO144.out (fun _ hk => hk.2.2.2))); have n3_ := Aside0.mk (hp_); have n4_ := Aside0.mk ((by rw [hw]; exact below_set (below_set (below_set (HB.out) GB61.out) GB61.out) GB61.out : Below w0.heap.size w0 w68)); have n5_ := Aside0.mk (Kept.of_grown (S := (fun k_ => P0_ k_)) hg (by repeat (first | (with_reducible first | exact HK.out | apply Kept.alloc | apply Kept.drewN | apply Kept.drew | refine Kept.setCell ?_ (.inr GW106.out) _ | refine Kept.setCell ?_ (.inr GW134.out) _) | exact HK.out)) (fun k_ e_ => (HO144.out.1 k_ e_).1)); clear HO_0; clear BK106; clear BK134; clear HO144; clear HB; clear HK; have HO_0 := n0_; have BK106 := n1_; have BK134 := n2_; have HO144 := n3_; have HB := n4_; have HK := n5_; clear n0_ n1_ n2_ n3_ n4_ n5_; clear hg hw hp_))
                    go_ret3
                    exact ⟨_, by first | rfl | (simp [errW_none, errW_some] <;> rfl) | (simp [*, errW_none, errW_some] <;> rfl), by (with_reducible repeat (first | apply Kd.R_alloc | apply Kd.R_drewN | apply Kd.R_drew)); exact Kd.R_mono HO144.out (fun _ hk => hk.1), by repeat (first | (with_reducible first | exact HB.out | apply below_alloc | apply pw_below_drewN | apply below_drew1 | refine below_set ?_ GE106.out | refine below_set ?_ GE134.out) | exact HB.out), by repeat (first | (with_reducible first | exact HK.out | apply Kept.alloc | apply Kept.drewN | apply Kept.drew | refine Kept.setCell ?_ (.inr GW106.out) _ | refine Kept.setCell ?_ (.inr GW134.out) _) | exact HK.out)⟩
        · replace c13 := Bool.eq_false_iff.mpr c13
          subst c13
          have H1 : (if (l0.length : Int) ≥ 65536 then (some (l0, 0, 5)) else (if 0 ≤ (wrap64 ((l0.length : Int) + 1)) then (if (wrap64 ((l0.length : Int) + 1) : Int).toNat ≤ 11728124029610 then ((some (([] : List (S25)) : List (S25))).bind fun y110 => (if 0 ≤ t108 then (if t108 ≤ (l0.length : Int) then ((some (l0.take (t108 : Int).toNat : List (S25))).bind fun y113 => (if y110.length + y113.length < 5864062014805 then ((some (y110 ++ y113 : List (S25))).bind fun y117 => ((some (([(⟨a1_0, a1_1, a1_2⟩ : S25)] : List (S25)) : List (S25))).bind fun y120 => (if y117.length + y120.length < 5864062014805 then ((some (y117 ++ y120 : List (S25))).bind fun y123 => ((some (l0.drop (t108 : Int).toNat : List (S25))).bind fun y126 => (if y123.length + y126.length < 5864062014805 then (some ((y123 ++ y126), 1, 0)) else (none)))) else (none)))) else (none))) else (none)) else (none))) else (none)) else (none))) = some (r1, r2, r3) := by rw [if_neg (show ¬ (false = true) by decide)] at H; exact H
          clear H
          have H := H1
          clear H1
          by_cases c69 : (l0.length : Int) ≥ 65536
          · rw [if_pos c69] at H
            have c69b0 : decide (65536 ≤ (l0.length : Int)) = true := decide_eq_true c69
            have c69b1 : decide (65536 ≤ l0.length) = true := decide_eq_true (by omega)
            clear c69
            simp only [Option.some.injEq, Prod.mk.injEq] at H
            obtain ⟨rfl, rfl, rfl⟩ := H
            have hcz70_0 : wc.cell? ⟨gb106, 0, none⟩ = some (.int .i64 a1_0) := (blk_cell BK106.out 0).trans rfl
            have hcz70_1 : wc.cell? ⟨gb106, 1, none⟩ = some (.int .u64 a1_1) := (blk_cell BK106.out 1).trans rfl
            have hcz70_2 : wc.cell? ⟨gb106, 2, none⟩ = some (.int .u64 a1_2) := (blk_cell BK106.out 2).trans rfl
            have hfz70_0 := blk_frozen BK106.out 0
            have hfz70_1 := blk_frozen BK106.out 1
            have hfz70_2 := blk_frozen BK106.out 2
            obtain ⟨Ao71, co71, eo71⟩ := Kd.R_slice HO_0.out
            subst eo71
            go_wp2_with (first | ((with_reducible refine gate_callee (f := 18) rfl ?_); refine goesL_ (some 26) rfl rfl Try.func18 (by kernel_rfl) rfl #[.slice Ao71 l0.length co71, .int .i64 a1_0] rfl (by (try simp only [List.map_toArray, List.map_cons, List.map_nil]); first | done | rfl | (simp only [List.length_drop, List.length_take]; rfl)) ?_; (with_reducible refine (points_Find.calls _ _ l0 a1_0 t108 false _ ?side1 ?side2 A12.out).mono ?_); (case side1 => repeat (first | exact (Kd.R_reads' HO_0.out).2.2 | (with_reducible refine Kd.C_alloc ?_ _) | (with_reducible refine Kd.C_drewN ?_ _) | (with_reducible refine Kd.C_drew ?_))); (case side2 => exact (Kd.R_reads' HO_0.out).2.1); rintro e w72 ⟨rfl, hb⟩; refine ⟨_, rfl, ?_⟩; have n0_ := Aside0.mk (Kd.R_below (by (with_reducible repeat (first | apply Kd.R_alloc | apply Kd.R_drewN | apply Kd.R_drew)); exact HO_0.out) hb); have n1_ := Aside0.mk (blk_below (g := gb106) (o := .cells #[.int .i64 a1_0, .int .u64 a1_1, .int .u64 a1_2] 25 (0, 0)) (by (with_reducible repeat (first | refine blk_drewN ?_ _ | refine blk_drew ?_ | refine blk_alloc ?_ _)); exact BK106.out) hb); have n2_ := Aside0.mk (Kept.below (S := (fun k_ => P0_ k_)) (by repeat (first | (with_reducible first | exact HK.out | apply Kept.alloc | apply Kept.drewN | apply Kept.drew | refine Kept.setCell ?_ (.inr GW106.out) _) | exact HK.out)) hb); have n3_ := Aside0.mk (below_step (by repeat (first | (with_reducible first | exact HB.out | apply below_alloc | apply pw_below_drewN | apply below_drew1 | refine below_set ?_ GE106.out) | exact HB.out)) hb); clear HO_0; clear BK106; clear HK; clear HB; have HO_0 := n0_; have BK106 := n1_; have HK := n2_; have HB := n3_; clear n0_ n1_ n2_ n3_; (try clear hb); (try clear hb2); (try clear hk); (try clear hi)))
            go_ret3
            exact ⟨_, by first | rfl | (simp [errW_none, errW_some] <;> rfl) | (simp [*, errW_none, errW_some] <;> rfl), by (with_reducible repeat (first | apply Kd.R_alloc | apply Kd.R_drewN | apply Kd.R_drew)); exact Kd.R_mono HO_0.out (fun _ hk => hk.1), by repeat (first | (with_reducible first | exact HB.out | apply below_alloc | apply pw_below_drewN | apply below_drew1 | refine below_set ?_ GE106.out) | exact HB.out), by repeat (first | (with_reducible first | exact HK.out | apply Kept.alloc | apply Kept.drewN | apply Kept.drew | refine Kept.setCell ?_ (.inr GW106.out) _) | exact HK.out)⟩
          · rw [if_neg c69] at H
            have c69b0 : decide (65536 ≤ (l0.length : Int)) = false := decide_eq_false c69
            have c69b1 : decide (65536 ≤ l0.length) = false := decide_eq_false (by omega)
            clear c69
            obtain ⟨ji73, hji73⟩ : ∃ j_ : Int, (wrap64 ((l0.length : Int) + 1)) = j_ := ⟨_, rfl⟩
            replace H : (if 0 ≤ (ji73) then (if (ji73 : Int).toNat ≤ 11728124029610 then ((some (([] : List (S25)) : List (S25))).bind fun y110 => (if 0 ≤ t108 then (if t108 ≤ (l0.length : Int) then ((some (l0.take (t108 : Int).toNat : List (S25))).bind fun y113 => (if y110.length + y113.length < 5864062014805 then ((some (y110 ++ y113 : List (S25))).bind fun y117 => ((some (([(⟨a1_0, a1_1, a1_2⟩ : S25)] : List (S25)) : List (S25))).bind fun y120 => (if y117.length + y120.length < 5864062014805 then ((some (y117 ++ y120 : List (S25))).bind fun y123 => ((some (l0.drop (t108 : Int).toNat : List (S25))).bind fun y126 => (if y123.length + y126.length < 5864062014805 then (some ((y123 ++ y126), 1, 0)) else (none)))) else (none)))) else (none))) else (none)) else (none))) else (none)) else (none)) = some (r1, r2, r3) := by first | (rw [hji73] at H; exact H) | (simp only [hji73] at H ⊢; exact H)
            (try rw [hji73] at A12)
            have hji73w : (IntKind.i64.wrap ((l0.length : Int) + 1)) = ji73 := (i64_w _).trans hji73
            by_cases c74 : 0 ≤ (ji73)
            rotate_left
            · rw [if_neg c74] at H
              exact absurd H (by simp)
            rw [if_pos c74] at H
            have c74b0 := eq_true c74
            have c74b1 : decide (0 ≤ (ji73)) = true := decide_eq_true c74
            clear c74
            by_cases c75 : (ji73 : Int).toNat ≤ 11728124029610
            rotate_left
            · rw [if_neg c75] at H
              exact absurd H (by simp)
            rw [if_pos c75] at H
            have c75b0 := eq_true c75
            have c75b1 : decide ((ji73 : Int).toNat ≤ 11728124029610) = true := decide_eq_true c75
            clear c75
            obtain ⟨y110, hy110⟩ : ∃ y_ : List (S25), y_ = (([] : List (S25))) := ⟨_, rfl⟩
            replace H : (if 0 ≤ t108 then (if t108 ≤ (l0.length : Int) then ((some (l0.take (t108 : Int).toNat : List (S25))).bind fun y113 => (if y110.length + y113.length < 5864062014805 then ((some (y110 ++ y113 : List (S25))).bind fun y117 => ((some (([(⟨a1_0, a1_1, a1_2⟩ : S25)] : List (S25)) : List (S25))).bind fun y120 => (if y117.length + y120.length < 5864062014805 then ((some (y117 ++ y120 : List (S25))).bind fun y123 => ((some (l0.drop (t108 : Int).toNat : List (S25))).bind fun y126 => (if y123.length + y126.length < 5864062014805 then (some ((y123 ++ y126), 1, 0)) else (none)))) else (none)))) else (none))) else (none)) else (none)) = some (r1, r2, r3) := by first | (rw [hy110]; with_reducible exact H) | (have H2_ := (Option.bind_some _ _).symm.trans H; rw [hy110]; with_reducible exact H2_) | (have H2_ := (Option.bind_some _ _).symm.trans H; with_reducible exact H2_) | with_reducible exact H | (rw [hy110]; exact H) | exact H
            have Ny110 := Aside0.mk hy110
            clear hy110
            by_cases c76 : 0 ≤ t108
            rotate_left
            · rw [if_neg c76] at H
              exact absurd H (by simp)
            rw [if_pos c76] at H
            have c76b0 := eq_true c76
            have c76b1 : decide (0 ≤ t108) = true := decide_eq_true c76
            clear c76
            by_cases c77 : t108 ≤ (l0.length : Int)
            rotate_left
            · rw [if_neg c77] at H
              exact absurd H (by simp)
            rw [if_pos c77] at H
            have c77b0 := eq_true c77
            have c77b1 : decide (t108 ≤ (l0.length : Int)) = true := decide_eq_true c77
            clear c77
            obtain ⟨y113, hy113⟩ : ∃ y_ : List (S25), y_ = (l0.take (t108 : Int).toNat) := ⟨_, rfl⟩
            replace H : (if y110.length + y113.length < 5864062014805 then ((some (y110 ++ y113 : List (S25))).bind fun y117 => ((some (([(⟨a1_0, a1_1, a1_2⟩ : S25)] : List (S25)) : List (S25))).bind fun y120 => (if y117.length + y120.length < 5864062014805 then ((some (y117 ++ y120 : List (S25))).bind fun y123 => ((some (l0.drop (t108 : Int).toNat : List (S25))).bind fun y126 => (if y123.length + y126.length < 5864062014805 then (some ((y123 ++ y126), 1, 0)) else (none)))) else (none)))) else (none)) = some (r1, r2, r3) := by first | (rw [hy113]; with_reducible exact H) | (have H2_ := (Option.bind_some _ _).symm.trans H; rw [hy113]; with_reducible exact H2_) | (have H2_ := (Option.bind_some _ _).symm.trans H; with_reducible exact H2_) | with_reducible exact H | (rw [hy113]; exact H) | exact H
            have Ny113 := Aside0.mk hy113
            clear hy113
            by_cases c78 : y110.length + y113.length < 5864062014805
            rotate_left
            · rw [if_neg c78] at H
              exact absurd H (by simp)
            rw [if_pos c78] at H
            have LMc78 := Aside0.mk c78
            clear c78
            obtain ⟨y117, hy117⟩ : ∃ y_ : List (S25), y_ = (y110 ++ y113) := ⟨_, rfl⟩
            replace H : ((some (([(⟨a1_0, a1_1, a1_2⟩ : S25)] : List (S25)) : List (S25))).bind fun y120 => (if y117.length + y120.length < 5864062014805 then ((some (y117 ++ y120 : List (S25))).bind fun y123 => ((some (l0.drop (t108 : Int).toNat : List (S25))).bind fun y126 => (if y123.length + y126.length < 5864062014805 then (some ((y123 ++ y126), 1, 0)) else (none)))) else (none))) = some (r1, r2, r3) := by first | (rw [hy117]; with_reducible exact H) | (have H2_ := (Option.bind_some _ _).symm.trans H; rw [hy117]; with_reducible exact H2_) | (have H2_ := (Option.bind_some _ _).symm.trans H; with_reducible exact H2_) | with_reducible exact H | (rw [hy117]; exact H) | exact H
            have Ny117 := Aside0.mk hy117
            clear hy117
            obtain ⟨y120, hy120⟩ : ∃ y_ : List (S25), y_ = (([(⟨a1_0, a1_1, a1_2⟩ : S25)] : List (S25))) := ⟨_, rfl⟩
            replace H : (if y117.length + y120.length < 5864062014805 then ((some (y117 ++ y120 : List (S25))).bind fun y123 => ((some (l0.drop (t108 : Int).toNat : List (S25))).bind fun y126 => (if y123.length + y126.length < 5864062014805 then (some ((y123 ++ y126), 1, 0)) else (none)))) else (none)) = some (r1, r2, r3) := by first | (rw [hy120]; with_reducible exact H) | (have H2_ := (Option.bind_some _ _).symm.trans H; rw [hy120]; with_reducible exact H2_) | (have H2_ := (Option.bind_some _ _).symm.trans H; with_reducible exact H2_) | with_reducible exact H | (rw [hy120]; exact H) | exact H
            have Ny120 := Aside0.mk hy120
            clear hy120
            by_cases c79 : y117.length + y120.length < 5864062014805
            rotate_left
            · rw [if_neg c79] at H
              exact absurd H (by simp)
            rw [if_pos c79] at H
            have LMc79 := Aside0.mk c79
            clear c79
            obtain ⟨y123, hy123⟩ : ∃ y_ : List (S25), y_ = (y117 ++ y120) := ⟨_, rfl⟩
            replace H : ((some (l0.drop (t108 : Int).toNat : List (S25))).bind fun y126 => (if y123.length + y126.length < 5864062014805 then (some ((y123 ++ y126), 1, 0)) else (none))) = some (r1, r2, r3) := by first | (rw [hy123]; with_reducible exact H) | (have H2_ := (Option.bind_some _ _).symm.trans H; rw [hy123]; with_reducible exact H2_) | (have H2_ := (Option.bind_some _ _).symm.trans H; with_reducible exact H2_) | with_reducible exact H | (rw [hy123]; exact H) | exact H
            have Ny123 := Aside0.mk hy123
            clear hy123
            have c80b0 := eq_true (of_decide_eq_true (by first | (with_reducible assumption) | assumption) : 0 ≤ t108)
            have c81b0 := eq_true (of_decide_eq_true (by first | (with_reducible assumption) | assumption) : t108 ≤ (l0.length : Int))
            obtain ⟨y126, hy126⟩ : ∃ y_ : List (S25), y_ = (l0.drop (t108 : Int).toNat) := ⟨_, rfl⟩
            replace H : (if y123.length + y126.length < 5864062014805 then (some ((y123 ++ y126), 1, 0)) else (none)) = some (r1, r2, r3) := by first | (rw [hy126]; with_reducible exact H) | (have H2_ := (Option.bind_some _ _).symm.trans H; rw [hy126]; with_reducible exact H2_) | (have H2_ := (Option.bind_some _ _).symm.trans H; with_reducible exact H2_) | with_reducible exact H | (rw [hy126]; exact H) | exact H
            have Ny126 := Aside0.mk hy126
            clear hy126
            by_cases c82 : y123.length + y126.length < 5864062014805
            rotate_left
            · rw [if_neg c82] at H
              exact absurd H (by simp)
            rw [if_pos c82] at H
            have LMc82 := Aside0.mk c82
            clear c82
            obtain ⟨y130, hy130⟩ : ∃ y_ : List (S25), y_ = (y123 ++ y126) := ⟨_, rfl⟩
            replace H : (some (y130, 1, 0)) = some (r1, r2, r3) := by first | (rw [hy130]; with_reducible exact H) | (have H2_ := (Option.bind_some _ _).symm.trans H; rw [hy130]; with_reducible exact H2_) | (have H2_ := (Option.bind_some _ _).symm.trans H; with_reducible exact H2_) | with_reducible exact H | (rw [hy130]; exact H) | exact H
            have Ny130 := Aside0.mk hy130
            clear hy130
            simp only [Option.some.injEq, Prod.mk.injEq] at H
            obtain ⟨rfl, rfl, rfl⟩ := H
            have hcz83_0 : wc.cell? ⟨gb106, 0, none⟩ = some (.int .i64 a1_0) := (blk_cell BK106.out 0).trans rfl
            have hcz83_1 : wc.cell? ⟨gb106, 1, none⟩ = some (.int .u64 a1_1) := (blk_cell BK106.out 1).trans rfl
            have hcz83_2 : wc.cell? ⟨gb106, 2, none⟩ = some (.int .u64 a1_2) := (blk_cell BK106.out 2).trans rfl
            have hfz83_0 := blk_frozen BK106.out 0
            have hfz83_1 := blk_frozen BK106.out 1
            have hfz83_2 := blk_frozen BK106.out 2
            obtain ⟨Ao84, co84, eo84⟩ := Kd.R_slice HO_0.out
            subst eo84
            try go_wp2_with (first | ((with_reducible refine gate_callee (f := 18) rfl ?_); refine goesL_ (some 26) rfl rfl Try.func18 (by kernel_rfl) rfl #[.slice Ao84 l0.length co84, .int .i64 a1_0] rfl (by (try simp only [List.map_toArray, List.map_cons, List.map_nil]); first | done | rfl | (simp only [List.length_drop, List.length_take]; rfl)) ?_; (with_reducible refine (points_Find.calls _ _ l0 a1_0 t108 false _ ?side1 ?side2 A12.out).mono ?_); (case side1 => repeat (first | exact (Kd.R_reads' HO_0.out).2.2 | (with_reducible refine Kd.C_alloc ?_ _) | (with_reducible refine Kd.C_drewN ?_ _) | (with_reducible refine Kd.C_drew ?_))); (case side2 => exact (Kd.R_reads' HO_0.out).2.1); rintro e w85 ⟨rfl, hb⟩; refine ⟨_, rfl, ?_⟩; have n0_ := Aside0.mk (Kd.R_below (by (with_reducible repeat (first | apply Kd.R_alloc | apply Kd.R_drewN | apply Kd.R_drew)); exact HO_0.out) hb); have n1_ := Aside0.mk (blk_below (g := gb106) (o := .cells #[.int .i64 a1_0, .int .u64 a1_1, .int .u64 a1_2] 25 (0, 0)) (by (with_reducible repeat (first | refine blk_drewN ?_ _ | refine blk_drew ?_ | refine blk_alloc ?_ _)); exact BK106.out) hb); have n2_ := Aside0.mk (Kept.below (S := (fun k_ => P0_ k_)) (by repeat (first | (with_reducible first | exact HK.out | apply Kept.alloc | apply Kept.drewN | apply Kept.drew | refine Kept.setCell ?_ (.inr GW106.out) _) | exact HK.out)) hb); have n3_ := Aside0.mk (below_step (by repeat (first | (with_reducible first | exact HB.out | apply below_alloc | apply pw_below_drewN | apply below_drew1 | refine below_set ?_ GE106.out) | exact HB.out)) hb); clear HO_0; clear BK106; clear HK; clear HB; have HO_0 := n0_; have BK106 := n1_; have HK := n2_; have HB := n3_; clear n0_ n1_ n2_ n3_; (try clear hb); (try clear hb2); (try clear hk); (try clear hi)) | ((with_reducible refine gate_dst (N := 38) rfl ?_); refine Kd.R_make0 k25 _ 25 rfl (N := 38) rfl 22 _ _ rfl ji73 rfl rfl Try.underlying22 (.agg #[(.int .i64 0), (.int .u64 0), (.int .u64 0)]) 24 info25 (by decide) (ok := fun _ => True) trivial (of_decide_eq_true (by first | (with_reducible assumption) | assumption)) (Nat.le_trans (Nat.mul_le_mul_right _ (of_decide_eq_true (by first | (with_reducible assumption) | assumption) : ji73.toNat ≤ 11728124029610)) (by omega)) (Below.refl _ _) (Nat.le_refl _) ?_; intro v111 w86 ho87 hb hg_ hnew_; clear hg_ hnew_; (first | rw [← Ny110.out] at ho87 | (simp only [Int.reduceToNat] at ho87; rw [← Ny110.out] at ho87)); have n0_ := Aside0.mk (Kd.R_elder' (by (with_reducible repeat (first | apply Kd.R_alloc | apply Kd.R_drewN | apply Kd.R_drew)); exact HO_0.out) (Kd.R_base ho87) hb); have n1_ := Aside0.mk (Kd.R_lower (Kd.R_newB (Kd.R_new' (Kd.R_newM (M := fun k_ => (P0_ k_ ∨ w.heap.size ≤ k_)) ho87 (by first | exact HK.out.1 | exact (show Kept w _ (fun k_ => P0_ k_) from by repeat (first | (with_reducible first | exact HK.out | apply Kept.alloc | apply Kept.drewN | apply Kept.drew | refine Kept.setCell ?_ (.inr GW106.out) _) | exact HK.out)).1) (fun k_ h_ => .inr h_)) (Kd.R_lt (by (with_reducible repeat (first | apply Kd.R_alloc | apply Kd.R_drewN | apply Kd.R_drew)); exact HO_0.out))) (g := gb106) (o := .cells #[.int .i64 a1_0, .int .u64 a1_1, .int .u64 a1_2] 25 (0, 0)) (by (with_reducible repeat (first | refine blk_drewN ?_ _ | refine blk_drew ?_ | refine blk_alloc ?_ _)); exact BK106.out)) (below_size (by repeat (first | (with_reducible first | exact HB.out | apply below_alloc | apply pw_below_drewN | apply below_drew1 | refine below_set ?_ GE106.out) | exact HB.out)))); have n2_ := Aside0.mk (blk_below (g := gb106) (o := .cells #[.int .i64 a1_0, .int .u64 a1_1, .int .u64 a1_2] 25 (0, 0)) (by (with_reducible repeat (first | refine blk_drewN ?_ _ | refine blk_drew ?_ | refine blk_alloc ?_ _)); exact BK106.out) hb); have n3_ := Aside0.mk (Kept.below (S := (fun k_ => P0_ k_)) (by repeat (first | (with_reducible first | exact HK.out | apply Kept.alloc | apply Kept.drewN | apply Kept.drew | refine Kept.setCell ?_ (.inr GW106.out) _) | exact HK.out)) hb); have n4_ := Aside0.mk (below_step (by repeat (first | (with_reducible first | exact HB.out | apply below_alloc | apply pw_below_drewN | apply below_drew1 | refine below_set ?_ GE106.out) | exact HB.out)) hb); clear HO_0; clear BK106; clear HK; clear HB; have HO_0 := n0_; have HO112 := n1_; have BK106 := n2_; have HK := n3_; have HB := n4_; clear n0_ n1_ n2_ n3_ n4_; clear hb ho87; obtain ⟨Ao88, co88, eo88⟩ := Kd.R_slice HO112.out; subst eo88))
            have n0_ := Aside0.mk (Kd.R_drew HO_0.out)
            have n1_ := Aside0.mk (Kd.R_drew HO112.out)
            have n2_ := Aside0.mk (blk_drew BK106.out)
            have n3_ := Aside0.mk (Kept.drew HK.out)
            have n4_ := Aside0.mk (below_drew1 HB.out)
            clear HO_0
            clear HO112
            clear BK106
            clear HK
            clear HB
            have HO_0 := n0_
            have HO112 := n1_
            have BK106 := n2_
            have HK := n3_
            have HB := n4_
            clear n0_ n1_ n2_ n3_ n4_
            try clear hcut90
            try clear hcut90
            have q90 : (t108 : Int) ≤ ((l0.length : Int) : Int) := of_decide_eq_true (by first | (with_reducible assumption) | assumption)
            obtain ⟨i090, hi090, _, hsz90, _⟩ := info_parts info25
            have hroom90 : l0.length ≤ co84 := (Kd.R_reads' HO_0.out).2.1
            have hC90 : Kd.C k25 _ Ao84 l0.length l0 := (Kd.R_reads' HO_0.out).2.2
            have hcut90 := cut_to3 (P := Try.prog) 22 25 .i64 .i64 Try.underlying22 hi090 Ao84 l0.length co84 t108 (of_decide_eq_true (by first | (with_reducible assumption) | assumption)) q90 hroom90
            have hr90 := Kd.C_take (m := (t108 : Int).toNat) hC90 (by omega)
            have hy90 : y113.length = (t108 : Int).toNat := (by rw [Ny113.out, List.length_take]; omega)
            rw [← Ny113.out] at hr90
            rw [← hy90] at hcut90
            have HR116 := Aside0.mk hr90
            have HC116 := Aside0.mk (show y113.length ≤ y113.length from by omega)
            clear hr90 hC90 hroom90 hi090 hsz90
            have KY90 := Aside0.mk hy90
            clear hy90
            have KL90 := Aside0.mk (show (t108 : Int).toNat ≤ l0.length from by omega)
            replace q90 := eq_true q90
            refine start_ (n := 10) (S := fun w' => w'.cell? ⟨gb106, 0, none⟩ = some (.int .i64 a1_0) ∧ w'.cell? ⟨gb106, 1, none⟩ = some (.int .u64 a1_1) ∧ w'.cell? ⟨gb106, 2, none⟩ = some (.int .u64 a1_2)) (ds := []) #[false, false, false, false, false, false, false, false, false, false] (by kernel_rfl) rfl rfl ⟨(blk_cell BK106.out 0).trans rfl, (blk_cell BK106.out 1).trans rfl, (blk_cell BK106.out 2).trans rfl⟩ (fun hHeld => ?_); refine with_tabW points_Put.tab8 points_Put.bits8 (fun HT_ HW_ => ?_)
            generalize w86.drew = w89 at HO_0 HO112 BK106 HK HB HR116 hHeld ⊢
            refine pure_ (i := 0) (N := some 39) (v := ?_) (a' := ?_) #[true, false, false, false, false, false, false, false, false, false] rfl rfl (any_of HT_.out (by kernel_rfl)) (fun _ _ _ h => h) (Or.inl ⟨by rfl, ?_⟩) ?_ ?_
            rotate_left
            · intro w'
              go_simp
              with_reducible rfl
            rotate_left
            · simp only [Act.put, List.setIfInBounds_toArray, List.set_cons_zero, List.set_cons_succ, i64_w, i32_w, xu32_w, xu8_w]
              rfl
            refine pure_ (i := 1) (N := some 40) (v := ?_) (a' := ?_) #[true, true, false, false, false, false, false, false, false, false] rfl rfl (any_of HT_.out (by kernel_rfl)) (fun _ _ _ h => h) (Or.inl ⟨by rfl, ?_⟩) ?_ ?_
            rotate_left
            · intro w'
              go_simp
              with_reducible rfl
            rotate_left
            · simp only [Act.put, List.setIfInBounds_toArray, List.set_cons_zero, List.set_cons_succ, i64_w, i32_w, xu32_w, xu8_w]
              rfl
            refine pure_ (i := 2) (N := some 41) (v := ?_) (a' := ?_) #[true, true, true, false, false, false, false, false, false, false] rfl rfl (any_of HT_.out (by kernel_rfl)) (fun _ _ _ h => h) (Or.inl ⟨by rfl, ?_⟩) ?_ ?_
            rotate_left
            · intro w'
              go_simp
              with_reducible rfl
            rotate_left
            · simp only [Act.put, List.setIfInBounds_toArray, List.set_cons_zero, List.set_cons_succ, i64_w, i32_w, xu32_w, xu8_w]
              rfl
            refine pure_ (i := 3) (N := some 42) (v := ?_) (a' := ?_) #[true, true, true, true, false, false, false, false, false, false] rfl rfl (any_of HT_.out (by kernel_rfl)) (fun _ _ _ h => h) (Or.inl ⟨by rfl, ?_⟩) ?_ ?_
            rotate_left
            · intro w'
              go_simp
              with_reducible rfl
            rotate_left
            · simp only [Act.put, List.setIfInBounds_toArray, List.set_cons_zero, List.set_cons_succ, i64_w, i32_w, xu32_w, xu8_w]
              rfl
            refine pure_ (i := 4) (N := some 43) (v := ?_) (a' := ?_) #[true, true, true, true, true, false, false, false, false, false] rfl rfl (any_of HT_.out (by kernel_rfl)) (fun _ _ _ h => h) (Or.inl ⟨by rfl, ?_⟩) ?_ ?_
            rotate_left
            · intro w'
              go_simp
              with_reducible rfl
            rotate_left
            · simp only [Act.put, List.setIfInBounds_toArray, List.set_cons_zero, List.set_cons_succ, i64_w, i32_w, xu32_w, xu8_w]
              rfl
            refine take_ (i := 6) (N := some 45) (v := ?_) (a' := ?_) #[true, true, true, true, true, false, true, false, false, false] rfl rfl (take_ofW HT_.out HW_.out (by kernel_rfl)) (fun _ _ _ h => h) (Or.inl ⟨by rfl, ?_⟩) hHeld ?_ ?_
            rotate_left
            · rintro w' ⟨s0, s1, s2⟩
              go_simp
              with_reducible rfl
            rotate_left
            · simp only [Act.put, List.setIfInBounds_toArray, List.set_cons_zero, List.set_cons_succ, i64_w, i32_w, xu32_w, xu8_w]
              rfl
            refine join_ (σ := Value × Value) 2 #[true, true, true, true, true, true, true, true, false, false] (fun s_ => [(44, s_.1), (46, s_.2)]) (fun s_ w' => (w'.cell? ⟨gb106, 0, none⟩ = some (.int .i64 a1_0) ∧ w'.cell? ⟨gb106, 1, none⟩ = some (.int .u64 a1_1) ∧ w'.cell? ⟨gb106, 2, none⟩ = some (.int .u64 a1_2)) ∧ (Kd.R k25 25 w' w0.heap.size (fun k_ => (P0_ k_ ∨ w.heap.size ≤ k_) ∧ some k_ ≠ (s_.2 : Value).ownBlock ∧ some k_ ≠ (.slice Ao84 l0.length co84 : Value).ownBlock ∧ k_ ≠ gb106) s_.1 y117) ∧ (Kd.R k25 25 w' w0.heap.size (fun k_ => (P0_ k_ ∨ w.heap.size ≤ k_) ∧ some k_ ≠ (s_.1 : Value).ownBlock ∧ some k_ ≠ (.slice Ao84 l0.length co84 : Value).ownBlock ∧ k_ ≠ gb106) s_.2 y120) ∧ (Kd.R k25 25 w' w0.heap.size (fun k_ => (P0_ k_ ∨ w.heap.size ≤ k_) ∧ some k_ ≠ (s_.1 : Value).ownBlock ∧ some k_ ≠ (s_.2 : Value).ownBlock ∧ k_ ≠ gb106) (.slice Ao84 l0.length co84) l0) ∧ (w'.heap[gb106]? = some (.cells #[.int .i64 a1_0, .int .u64 a1_1, .int .u64 a1_2] 25 (0, 0))) ∧ (Kept w w' (fun k_ => P0_ k_)) ∧ (Below w0.heap.size w0 w')) ?_ ?_
            rotate_left
            · intro hCont
              refine two_ (i := 5) (j := 7) (Ni := some 44) (Nj := some 46) #[true, true, true, true, true, true, true, false, false, false] #[true, true, true, true, true, false, true, true, false, false] rfl rfl rfl rfl (two_of HT_.out (by kernel_rfl)) (by decide) (by decide) (fun K hK => ?_) (fun K hK => ?_)
              · skip
                refine Kd.R_append_rows_step k25 (w0 := w0) w0.heap.size (by rfl) (.tmp 39) (.tmp 43) 22 25 (.agg #[(.int .i64 0), (.int .u64 0), (.int .u64 0)]) 24 rfl Try.underlying22 info25 rfl (by decide) (by omega) (.slice Ao88 y110.length co88) y110 y113 _ _ _ (fun k_ => (P0_ k_ ∨ w.heap.size ≤ k_) ∧ some k_ ≠ (.slice Ao84 l0.length co84 : Value).ownBlock ∧ k_ ≠ gb106) (fun _ => False) rfl rfl ?aO ?aR (fun _ _ h => h) (fun _ h => h.elim) ?aF ?aB ?aS ?aL ?_
                (case aR => repeat (first | exact (by repeat (first | (with_reducible exact HR116.out) | (with_reducible refine Kd.C_alloc ?_ _) | (with_reducible refine Kd.C_drewN ?_ _) | (with_reducible refine Kd.C_drew ?_) | exact HR116.out)) | (with_reducible refine Kd.C_alloc ?_ _) | (with_reducible refine Kd.C_drewN ?_ _) | (with_reducible refine Kd.C_drew ?_)))
                (case aB => exact (by repeat (first | (with_reducible first | exact HB.out | apply below_alloc | apply pw_below_drewN | apply below_drew1 | refine below_set ?_ GE106.out) | exact HB.out)))
                (case aF => exact (fun k_ hk => ⟨(.inr (Nat.le_trans (by first | exact HK.out.1 | exact (show Kept w _ (fun k_ => P0_ k_) from by repeat (first | (with_reducible first | exact HK.out | apply Kept.alloc | apply Kept.drewN | apply Kept.drew | refine Kept.setCell ?_ (.inr GW106.out) _) | exact HK.out)).1) hk)), Kd.fresh' (Kd.R_lt (by (with_reducible repeat (first | apply Kd.R_alloc | apply Kd.R_drewN | apply Kd.R_drew)); exact HO_0.out)) k_ hk, Kd.freshB (g := gb106) (o := .cells #[.int .i64 a1_0, .int .u64 a1_1, .int .u64 a1_2] 25 (0, 0)) (by (with_reducible repeat (first | refine blk_drewN ?_ _ | refine blk_drew ?_ | refine blk_alloc ?_ _)); exact BK106.out) k_ hk⟩))
                (case aO => exact (by (with_reducible repeat (first | apply Kd.R_alloc | apply Kd.R_drewN | apply Kd.R_drew)); exact Kd.R_mono HO112.out (fun _ hk => ⟨hk.1.1.1, ⟨hk.1.2, hk.2⟩⟩)))
                (case aS => exact (below_size (by repeat (first | (with_reducible first | exact HB.out | apply below_alloc | apply pw_below_drewN | apply below_drew1 | refine below_set ?_ GE106.out) | exact HB.out))))
                (case aL => have := LMc78.out; omega)
                intro v118 w91 ho hb hg hat
                rw [← Ny117.out] at ho
                have n0_ := Aside0.mk (Kd.R_after (ok := (fun k_ => (P0_ k_ ∨ w.heap.size ≤ k_) ∧ k_ ≠ gb106)) (by (with_reducible repeat (first | apply Kd.R_alloc | apply Kd.R_drewN | apply Kd.R_drew)); exact HO_0.out) hg hat)
                have n1_ := Aside0.mk (blk_grown (g := gb106) (o := .cells #[.int .i64 a1_0, .int .u64 a1_1, .int .u64 a1_2] 25 (0, 0)) (by (with_reducible repeat (first | refine blk_drewN ?_ _ | refine blk_drew ?_ | refine blk_alloc ?_ _)); exact BK106.out) hg (Kd.R_away HO112.out (fun _ hk => hk.2)))
                have n2_ := Aside0.mk (hb)
                have n3_ := Aside0.mk (Kept.of_grown (S := (fun k_ => P0_ k_)) hg (by repeat (first | (with_reducible first | exact HK.out | apply Kept.alloc | apply Kept.drewN | apply Kept.drew | refine Kept.setCell ?_ (.inr GW106.out) _) | exact HK.out)) (fun k_ e_ => (HO112.out.1 k_ e_).1.1.1))
                have n4_ := Aside0.mk ((show Kd.C k25 w91 Ao84 y113.length y113 from by rw [Ny113.out]; exact Kd.C_take (m := (t108 : Int).toNat) ((Kd.R_reads' (Kd.R_after (ok := (fun k_ => (P0_ k_ ∨ w.heap.size ≤ k_) ∧ k_ ≠ gb106)) (by (with_reducible repeat (first | apply Kd.R_alloc | apply Kd.R_drewN | apply Kd.R_drew)); exact HO_0.out) hg hat)).2.2) KL90.out))
                have n5_ := Aside0.mk (ho)
                clear HO_0
                clear BK106
                clear HB
                clear HK
                clear HR116
                clear HO112
                have HO_0 := n0_
                have BK106 := n1_
                have HB := n2_
                have HK := n3_
                have HR116 := n4_
                have HO119 := n5_
                clear n0_ n1_ n2_ n3_ n4_ n5_
                clear ho hb hg hat
                refine hK.out _ _ ⟨(blk_cell BK106.out 0).trans rfl, (blk_cell BK106.out 1).trans rfl, (blk_cell BK106.out 2).trans rfl⟩ (fun hHeld => ?_)
                clear hK K
                refine norm_ (a' := ?_) ?_ ?_
                rotate_left
                · show Act.put _ (some 44) _ = _
                  simp only [Act.put, List.setIfInBounds_toArray, List.set_cons_zero, List.set_cons_succ, i64_w, i32_w, xu32_w, xu8_w]
                  rfl
                refine one_ (i := 7) (N := some 46) #[true, true, true, true, true, true, true, true, false, false] rfl rfl (one_of HT_.out (by kernel_rfl)) (by decide) (fun K hK => ?_)
                refine Kd.R_lit_step k25 _ 25 ?hg (N := 46) ?hd (xs := ([(⟨a1_0, a1_1, a1_2⟩ : S25)] : List (S25))) (inner := [.int .i64 a1_0, .int .u64 a1_1, .int .u64 a1_2]) (ok := fun _ => True) (okp := fun _ => True) ?hr ?hp (fun _ hk => hk) trivial (Below.refl _ _) (Nat.le_refl _) (by simp) ?_; (case hd => rfl); (case hg => rfl); (case hr => first | (go_simp; done) | (go_simp; rfl)); (case hp => exact (Reps.c3 (show Kd.M k25 _ _ _ (⟨a1_0, a1_1, a1_2⟩ : S25) [.int .i64 a1_0, .int .u64 a1_1, .int .u64 a1_2] from (k25_mkM _ _ _ (⟨a1_0, a1_1, a1_2⟩ : S25) )) (Reps.none _ _)))
                intro v121 w92 ho93 hb hg_ hnew_
                clear hg_ hnew_
                (first | rw [← Ny120.out] at ho93 | (simp only [Int.reduceToNat] at ho93; rw [← Ny120.out] at ho93))
                have n0_ := Aside0.mk (Kd.R_elder' (by (with_reducible repeat (first | apply Kd.R_alloc | apply Kd.R_drewN | apply Kd.R_drew)); exact HO_0.out) (Kd.R_base ho93) hb)
                have n1_ := Aside0.mk (Kd.R_elder' (by (with_reducible repeat (first | apply Kd.R_alloc | apply Kd.R_drewN | apply Kd.R_drew)); exact HO119.out) (Kd.R_base ho93) hb)
                have n2_ := Aside0.mk (Kd.R_lower (Kd.R_newB (Kd.R_new' (Kd.R_new' (Kd.R_newM (M := fun k_ => (P0_ k_ ∨ w.heap.size ≤ k_)) ho93 (by first | exact HK.out.1 | exact (show Kept w _ (fun k_ => P0_ k_) from by repeat (first | (with_reducible first | exact HK.out | apply Kept.alloc | apply Kept.drewN | apply Kept.drew | refine Kept.setCell ?_ (.inr GW106.out) _) | exact HK.out)).1) (fun k_ h_ => .inr h_)) (Kd.R_lt (by (with_reducible repeat (first | apply Kd.R_alloc | apply Kd.R_drewN | apply Kd.R_drew)); exact HO_0.out))) (Kd.R_lt (by (with_reducible repeat (first | apply Kd.R_alloc | apply Kd.R_drewN | apply Kd.R_drew)); exact HO119.out))) (g := gb106) (o := .cells #[.int .i64 a1_0, .int .u64 a1_1, .int .u64 a1_2] 25 (0, 0)) (by (with_reducible repeat (first | refine blk_drewN ?_ _ | refine blk_drew ?_ | refine blk_alloc ?_ _)); exact BK106.out)) (below_size (by repeat (first | (with_reducible first | exact HB.out | apply below_alloc | apply pw_below_drewN | apply below_drew1 | refine below_set ?_ GE106.out) | exact HB.out))))
                have n3_ := Aside0.mk (blk_below (g := gb106) (o := .cells #[.int .i64 a1_0, .int .u64 a1_1, .int .u64 a1_2] 25 (0, 0)) (by (with_reducible repeat (first | refine blk_drewN ?_ _ | refine blk_drew ?_ | refine blk_alloc ?_ _)); exact BK106.out) hb)
                have n4_ := Aside0.mk (Kd.C_below (by repeat (first | (with_reducible exact HR116.out) | (with_reducible refine Kd.C_alloc ?_ _) | (with_reducible refine Kd.C_drewN ?_ _) | (with_reducible refine Kd.C_drew ?_) | exact HR116.out)) hb)
                have n5_ := Aside0.mk (Kept.below (S := (fun k_ => P0_ k_)) (by repeat (first | (with_reducible first | exact HK.out | apply Kept.alloc | apply Kept.drewN | apply Kept.drew | refine Kept.setCell ?_ (.inr GW106.out) _) | exact HK.out)) hb)
                have n6_ := Aside0.mk (below_step (by repeat (first | (with_reducible first | exact HB.out | apply below_alloc | apply pw_below_drewN | apply below_drew1 | refine below_set ?_ GE106.out) | exact HB.out)) hb)
                clear HO_0
                clear HO119
                clear BK106
                clear HR116
                clear HK
                clear HB
                have HO_0 := n0_
                have HO119 := n1_
                have HO122 := n2_
                have BK106 := n3_
                have HR116 := n4_
                have HK := n5_
                have HB := n6_
                clear n0_ n1_ n2_ n3_ n4_ n5_ n6_
                clear hb ho93
                refine hK.out _ _ ⟨(blk_cell BK106.out 0).trans rfl, (blk_cell BK106.out 1).trans rfl, (blk_cell BK106.out 2).trans rfl⟩ (fun hHeld => ?_)
                clear hK K
                refine norm_ (a' := ?_) ?_ ?_
                rotate_left
                · show Act.put _ (some 46) _ = _
                  simp only [Act.put, List.setIfInBounds_toArray, List.set_cons_zero, List.set_cons_succ, i64_w, i32_w, xu32_w, xu8_w]
                  rfl
                exact norm_ (by simp only [putAll, Act.put, List.setIfInBounds_toArray, List.set_cons_zero, List.set_cons_succ]) (hCont (v118, v121) _ ⟨hHeld, (by (with_reducible repeat (first | apply Kd.R_alloc | apply Kd.R_drewN | apply Kd.R_drew)); exact Kd.R_mono HO119.out (fun _ hk => ⟨hk.1.1, ⟨hk.2, ⟨hk.1.2.1, hk.1.2.2⟩⟩⟩)), (by (with_reducible repeat (first | apply Kd.R_alloc | apply Kd.R_drewN | apply Kd.R_drew)); exact Kd.R_mono HO122.out (fun _ hk => ⟨hk.1.1.1.1, ⟨hk.1.2, ⟨hk.1.1.2, hk.2⟩⟩⟩)), (by (with_reducible repeat (first | apply Kd.R_alloc | apply Kd.R_drewN | apply Kd.R_drew)); exact Kd.R_mono HO_0.out (fun _ hk => ⟨hk.1.1.1, ⟨hk.1.2, ⟨hk.2, hk.1.1.2⟩⟩⟩)), (by (with_reducible repeat (first | refine blk_drewN ?_ _ | refine blk_drew ?_ | refine blk_alloc ?_ _)); exact BK106.out), (by repeat (first | (with_reducible first | exact HK.out | apply Kept.alloc | apply Kept.drewN | apply Kept.drew | refine Kept.setCell ?_ (.inr GW106.out) _) | exact HK.out)), (by repeat (first | (with_reducible first | exact HB.out | apply below_alloc | apply pw_below_drewN | apply below_drew1 | refine below_set ?_ GE106.out) | exact HB.out))⟩)
              · skip
                refine Kd.R_lit_step k25 _ 25 ?hg (N := 46) ?hd (xs := ([(⟨a1_0, a1_1, a1_2⟩ : S25)] : List (S25))) (inner := [.int .i64 a1_0, .int .u64 a1_1, .int .u64 a1_2]) (ok := fun _ => True) (okp := fun _ => True) ?hr ?hp (fun _ hk => hk) trivial (Below.refl _ _) (Nat.le_refl _) (by simp) ?_; (case hd => rfl); (case hg => rfl); (case hr => first | (go_simp; done) | (go_simp; rfl)); (case hp => exact (Reps.c3 (show Kd.M k25 _ _ _ (⟨a1_0, a1_1, a1_2⟩ : S25) [.int .i64 a1_0, .int .u64 a1_1, .int .u64 a1_2] from (k25_mkM _ _ _ (⟨a1_0, a1_1, a1_2⟩ : S25) )) (Reps.none _ _)))
                intro v121 w91 ho92 hb hg_ hnew_
                clear hg_ hnew_
                (first | rw [← Ny120.out] at ho92 | (simp only [Int.reduceToNat] at ho92; rw [← Ny120.out] at ho92))
                have n0_ := Aside0.mk (Kd.R_elder' (by (with_reducible repeat (first | apply Kd.R_alloc | apply Kd.R_drewN | apply Kd.R_drew)); exact HO_0.out) (Kd.R_base ho92) hb)
                have n1_ := Aside0.mk (Kd.R_elder' (by (with_reducible repeat (first | apply Kd.R_alloc | apply Kd.R_drewN | apply Kd.R_drew)); exact HO112.out) (Kd.R_base ho92) hb)
                have n2_ := Aside0.mk (Kd.R_lower (Kd.R_newB (Kd.R_new' (Kd.R_new' (Kd.R_newM (M := fun k_ => (P0_ k_ ∨ w.heap.size ≤ k_)) ho92 (by first | exact HK.out.1 | exact (show Kept w _ (fun k_ => P0_ k_) from by repeat (first | (with_reducible first | exact HK.out | apply Kept.alloc | apply Kept.drewN | apply Kept.drew | refine Kept.setCell ?_ (.inr GW106.out) _) | exact HK.out)).1) (fun k_ h_ => .inr h_)) (Kd.R_lt (by (with_reducible repeat (first | apply Kd.R_alloc | apply Kd.R_drewN | apply Kd.R_drew)); exact HO_0.out))) (Kd.R_lt (by (with_reducible repeat (first | apply Kd.R_alloc | apply Kd.R_drewN | apply Kd.R_drew)); exact HO112.out))) (g := gb106) (o := .cells #[.int .i64 a1_0, .int .u64 a1_1, .int .u64 a1_2] 25 (0, 0)) (by (with_reducible repeat (first | refine blk_drewN ?_ _ | refine blk_drew ?_ | refine blk_alloc ?_ _)); exact BK106.out)) (below_size (by repeat (first | (with_reducible first | exact HB.out | apply below_alloc | apply pw_below_drewN | apply below_drew1 | refine below_set ?_ GE106.out) | exact HB.out))))
                have n3_ := Aside0.mk (blk_below (g := gb106) (o := .cells #[.int .i64 a1_0, .int .u64 a1_1, .int .u64 a1_2] 25 (0, 0)) (by (with_reducible repeat (first | refine blk_drewN ?_ _ | refine blk_drew ?_ | refine blk_alloc ?_ _)); exact BK106.out) hb)
                have n4_ := Aside0.mk (Kd.C_below (by repeat (first | (with_reducible exact HR116.out) | (with_reducible refine Kd.C_alloc ?_ _) | (with_reducible refine Kd.C_drewN ?_ _) | (with_reducible refine Kd.C_drew ?_) | exact HR116.out)) hb)
                have n5_ := Aside0.mk (Kept.below (S := (fun k_ => P0_ k_)) (by repeat (first | (with_reducible first | exact HK.out | apply Kept.alloc | apply Kept.drewN | apply Kept.drew | refine Kept.setCell ?_ (.inr GW106.out) _) | exact HK.out)) hb)
                have n6_ := Aside0.mk (below_step (by repeat (first | (with_reducible first | exact HB.out | apply below_alloc | apply pw_below_drewN | apply below_drew1 | refine below_set ?_ GE106.out) | exact HB.out)) hb)
                clear HO_0
                clear HO112
                clear BK106
                clear HR116
                clear HK
                clear HB
                have HO_0 := n0_
                have HO112 := n1_
                have HO122 := n2_
                have BK106 := n3_
                have HR116 := n4_
                have HK := n5_
                have HB := n6_
                clear n0_ n1_ n2_ n3_ n4_ n5_ n6_
                clear hb ho92
                refine hK.out _ _ ⟨(blk_cell BK106.out 0).trans rfl, (blk_cell BK106.out 1).trans rfl, (blk_cell BK106.out 2).trans rfl⟩ (fun hHeld => ?_)
                clear hK K
                refine norm_ (a' := ?_) ?_ ?_
                rotate_left
                · show Act.put _ (some 46) _ = _
                  simp only [Act.put, List.setIfInBounds_toArray, List.set_cons_zero, List.set_cons_succ, i64_w, i32_w, xu32_w, xu8_w]
                  rfl
                refine one_ (i := 5) (N := some 44) #[true, true, true, true, true, true, true, true, false, false] rfl rfl (one_of HT_.out (by kernel_rfl)) (by decide) (fun K hK => ?_)
                refine Kd.R_append_rows_step k25 (w0 := w0) w0.heap.size (by rfl) (.tmp 39) (.tmp 43) 22 25 (.agg #[(.int .i64 0), (.int .u64 0), (.int .u64 0)]) 24 rfl Try.underlying22 info25 rfl (by decide) (by omega) (.slice Ao88 y110.length co88) y110 y113 _ _ _ (fun k_ => (P0_ k_ ∨ w.heap.size ≤ k_) ∧ some k_ ≠ (.slice Ao84 l0.length co84 : Value).ownBlock ∧ some k_ ≠ (v121 : Value).ownBlock ∧ k_ ≠ gb106) (fun _ => False) rfl rfl ?aO ?aR (fun _ _ h => h) (fun _ h => h.elim) ?aF ?aB ?aS ?aL ?_
                (case aR => repeat (first | exact (by repeat (first | (with_reducible exact HR116.out) | (with_reducible refine Kd.C_alloc ?_ _) | (with_reducible refine Kd.C_drewN ?_ _) | (with_reducible refine Kd.C_drew ?_) | exact HR116.out)) | (with_reducible refine Kd.C_alloc ?_ _) | (with_reducible refine Kd.C_drewN ?_ _) | (with_reducible refine Kd.C_drew ?_)))
                (case aB => exact (by repeat (first | (with_reducible first | exact HB.out | apply below_alloc | apply pw_below_drewN | apply below_drew1 | refine below_set ?_ GE106.out) | exact HB.out)))
                (case aF => exact (fun k_ hk => ⟨(.inr (Nat.le_trans (by first | exact HK.out.1 | exact (show Kept w _ (fun k_ => P0_ k_) from by repeat (first | (with_reducible first | exact HK.out | apply Kept.alloc | apply Kept.drewN | apply Kept.drew | refine Kept.setCell ?_ (.inr GW106.out) _) | exact HK.out)).1) hk)), Kd.fresh' (Kd.R_lt (by (with_reducible repeat (first | apply Kd.R_alloc | apply Kd.R_drewN | apply Kd.R_drew)); exact HO_0.out)) k_ hk, Kd.fresh' (Kd.R_lt (by (with_reducible repeat (first | apply Kd.R_alloc | apply Kd.R_drewN | apply Kd.R_drew)); exact HO122.out)) k_ hk, Kd.freshB (g := gb106) (o := .cells #[.int .i64 a1_0, .int .u64 a1_1, .int .u64 a1_2] 25 (0, 0)) (by (with_reducible repeat (first | refine blk_drewN ?_ _ | refine blk_drew ?_ | refine blk_alloc ?_ _)); exact BK106.out) k_ hk⟩))
                (case aO => exact (by (with_reducible repeat (first | apply Kd.R_alloc | apply Kd.R_drewN | apply Kd.R_drew)); exact Kd.R_mono HO112.out (fun _ hk => ⟨hk.1.1.1.1, ⟨hk.1.1.2, ⟨hk.2, hk.1.2⟩⟩⟩)))
                (case aS => exact (below_size (by repeat (first | (with_reducible first | exact HB.out | apply below_alloc | apply pw_below_drewN | apply below_drew1 | refine below_set ?_ GE106.out) | exact HB.out))))
                (case aL => have := LMc78.out; omega)
                intro v118 w93 ho hb hg hat
                rw [← Ny117.out] at ho
                have n0_ := Aside0.mk (Kd.R_after (ok := (fun k_ => (P0_ k_ ∨ w.heap.size ≤ k_) ∧ some k_ ≠ (v121 : Value).ownBlock ∧ k_ ≠ gb106)) (by (with_reducible repeat (first | apply Kd.R_alloc | apply Kd.R_drewN | apply Kd.R_drew)); exact Kd.R_mono HO_0.out (fun _ hk => ⟨⟨hk.1.1.1, ⟨hk.2, hk.1.1.2⟩⟩, hk.1.2⟩)) hg hat)
                have n1_ := Aside0.mk (blk_grown (g := gb106) (o := .cells #[.int .i64 a1_0, .int .u64 a1_1, .int .u64 a1_2] 25 (0, 0)) (by (with_reducible repeat (first | refine blk_drewN ?_ _ | refine blk_drew ?_ | refine blk_alloc ?_ _)); exact BK106.out) hg (Kd.R_away HO112.out (fun _ hk => hk.1.2)))
                have n2_ := Aside0.mk (Kd.R_after (ok := (fun k_ => (P0_ k_ ∨ w.heap.size ≤ k_) ∧ some k_ ≠ (.slice Ao84 l0.length co84 : Value).ownBlock ∧ k_ ≠ gb106)) (by (with_reducible repeat (first | apply Kd.R_alloc | apply Kd.R_drewN | apply Kd.R_drew)); exact Kd.R_mono HO122.out (fun _ hk => ⟨⟨hk.1.1.1.1, ⟨hk.1.1.2, hk.2⟩⟩, hk.1.2⟩)) hg hat)
                have n3_ := Aside0.mk (hb)
                have n4_ := Aside0.mk (Kept.of_grown (S := (fun k_ => P0_ k_)) hg (by repeat (first | (with_reducible first | exact HK.out | apply Kept.alloc | apply Kept.drewN | apply Kept.drew | refine Kept.setCell ?_ (.inr GW106.out) _) | exact HK.out)) (fun k_ e_ => (HO112.out.1 k_ e_).1.1.1.1))
                have n5_ := Aside0.mk ((show Kd.C k25 w93 Ao84 y113.length y113 from by rw [Ny113.out]; exact Kd.C_take (m := (t108 : Int).toNat) ((Kd.R_reads' (Kd.R_after (ok := (fun k_ => (P0_ k_ ∨ w.heap.size ≤ k_) ∧ some k_ ≠ (v121 : Value).ownBlock ∧ k_ ≠ gb106)) (by (with_reducible repeat (first | apply Kd.R_alloc | apply Kd.R_drewN | apply Kd.R_drew)); exact Kd.R_mono HO_0.out (fun _ hk => ⟨⟨hk.1.1.1, ⟨hk.2, hk.1.1.2⟩⟩, hk.1.2⟩)) hg hat)).2.2) KL90.out))
                have n6_ := Aside0.mk (ho)
                clear HO_0
                clear BK106
                clear HO122
                clear HB
                clear HK
                clear HR116
                clear HO112
                have HO_0 := n0_
                have BK106 := n1_
                have HO122 := n2_
                have HB := n3_
                have HK := n4_
                have HR116 := n5_
                have HO119 := n6_
                clear n0_ n1_ n2_ n3_ n4_ n5_ n6_
                clear ho hb hg hat
                refine hK.out _ _ ⟨(blk_cell BK106.out 0).trans rfl, (blk_cell BK106.out 1).trans rfl, (blk_cell BK106.out 2).trans rfl⟩ (fun hHeld => ?_)
                clear hK K
                refine norm_ (a' := ?_) ?_ ?_
                rotate_left
                · show Act.put _ (some 44) _ = _
                  simp only [Act.put, List.setIfInBounds_toArray, List.set_cons_zero, List.set_cons_succ, i64_w, i32_w, xu32_w, xu8_w]
                  rfl
                exact norm_ (by simp only [putAll, Act.put, List.setIfInBounds_toArray, List.set_cons_zero, List.set_cons_succ]) (hCont (v118, v121) _ ⟨hHeld, (by (with_reducible repeat (first | apply Kd.R_alloc | apply Kd.R_drewN | apply Kd.R_drew)); exact Kd.R_mono HO119.out (fun _ hk => ⟨hk.1, ⟨hk.2.2.1, ⟨hk.2.1, hk.2.2.2⟩⟩⟩)), (by (with_reducible repeat (first | apply Kd.R_alloc | apply Kd.R_drewN | apply Kd.R_drew)); exact Kd.R_mono HO122.out (fun _ hk => ⟨hk.1.1, ⟨hk.2, ⟨hk.1.2.1, hk.1.2.2⟩⟩⟩)), (by (with_reducible repeat (first | apply Kd.R_alloc | apply Kd.R_drewN | apply Kd.R_drew)); exact Kd.R_mono HO_0.out (fun _ hk => ⟨hk.1.1, ⟨hk.2, ⟨hk.1.2.1, hk.1.2.2⟩⟩⟩)), (by (with_reducible repeat (first | refine blk_drewN ?_ _ | refine blk_drew ?_ | refine blk_alloc ?_ _)); exact BK106.out), (by repeat (first | (with_reducible first | exact HK.out | apply Kept.alloc | apply Kept.drewN | apply Kept.drew | refine Kept.setCell ?_ (.inr GW106.out) _) | exact HK.out)), (by repeat (first | (with_reducible first | exact HB.out | apply below_alloc | apply pw_below_drewN | apply below_drew1 | refine below_set ?_ GE106.out) | exact HB.out))⟩)
            rintro ⟨v118, v121⟩ w94 ⟨hS_, h0_, h1_, h2_, h3_, h4_, h5_⟩
            have n0_ : Aside0 (Kd.R k25 25 w94 w0.heap.size (fun k_ => (P0_ k_ ∨ w.heap.size ≤ k_) ∧ some k_ ≠ (v121 : Value).ownBlock ∧ some k_ ≠ (.slice Ao84 l0.length co84 : Value).ownBlock ∧ k_ ≠ gb106) v118 y117) := ⟨h0_⟩
            have n1_ : Aside0 (Kd.R k25 25 w94 w0.heap.size (fun k_ => (P0_ k_ ∨ w.heap.size ≤ k_) ∧ some k_ ≠ (v118 : Value).ownBlock ∧ some k_ ≠ (.slice Ao84 l0.length co84 : Value).ownBlock ∧ k_ ≠ gb106) v121 y120) := ⟨h1_⟩
            have n2_ : Aside0 (Kd.R k25 25 w94 w0.heap.size (fun k_ => (P0_ k_ ∨ w.heap.size ≤ k_) ∧ some k_ ≠ (v118 : Value).ownBlock ∧ some k_ ≠ (v121 : Value).ownBlock ∧ k_ ≠ gb106) (.slice Ao84 l0.length co84) l0) := ⟨h2_⟩
            have n3_ : Aside0 (w94.heap[gb106]? = some (.cells #[.int .i64 a1_0, .int .u64 a1_1, .int .u64 a1_2] 25 (0, 0))) := ⟨h3_⟩
            have n4_ : Aside0 (Kept w w94 (fun k_ => P0_ k_)) := ⟨h4_⟩
            have n5_ : Aside0 (Below w0.heap.size w0 w94) := ⟨h5_⟩
            clear HO_0
            clear HO112
            clear BK106
            clear HK
            clear HB
            clear h0_ h1_ h2_ h3_ h4_ h5_
            have HO119 := n0_
            have HO122 := n1_
            have HO_0 := n2_
            have BK106 := n3_
            have HK := n4_
            have HB := n5_
            clear n0_ n1_ n2_ n3_ n4_ n5_
            have hHeld : w94.cell? ⟨gb106, 0, none⟩ = some (.int .i64 a1_0) ∧ w94.cell? ⟨gb106, 1, none⟩ = some (.int .u64 a1_1) ∧ w94.cell? ⟨gb106, 2, none⟩ = some (.int .u64 a1_2) := hS_
            obtain ⟨Ao96, co96, eo96⟩ := Kd.R_slice HO122.out
            (first | subst eo96 | (injection eo96 with f1_ f2_ f3_; have f4_ := f1_.symm; have f5_ := f3_.symm; clear f1_ f2_ f3_; subst f4_; subst f5_))
            refine norm_ (a' := ?_) ?_ ?_
            rotate_left
            · simp only [putAll, Act.put, List.setIfInBounds_toArray, List.set_cons_zero, List.set_cons_succ]
              rfl
            refine one_ (i := 8) (N := some 47) #[true, true, true, true, true, true, true, true, true, false] rfl rfl (one_of HT_.out (by kernel_rfl)) (by decide) (fun K hK => ?_)
            refine Kd.R_append_rows_step k25 (w0 := w0) w0.heap.size (by rfl) (.tmp 44) (.tmp 46) 22 25 (.agg #[(.int .i64 0), (.int .u64 0), (.int .u64 0)]) 24 rfl Try.underlying22 info25 rfl (by decide) (by omega) v118 y117 y120 _ _ _ (fun k_ => (P0_ k_ ∨ w.heap.size ≤ k_) ∧ some k_ ≠ (.slice Ao84 l0.length co84 : Value).ownBlock ∧ some k_ ≠ (.slice Ao96 y120.length co96 : Value).ownBlock ∧ k_ ≠ gb106) (fun _ => False) rfl rfl ?aO ?aR (fun _ _ h => h) (fun _ h => h.elim) ?aF ?aB ?aS ?aL ?_
            (case aR => repeat (first | exact (Kd.R_reads' HO122.out).2.2 | (with_reducible refine Kd.C_alloc ?_ _) | (with_reducible refine Kd.C_drewN ?_ _) | (with_reducible refine Kd.C_drew ?_)))
            (case aB => exact (by repeat (first | (with_reducible first | exact HB.out | apply below_alloc | apply pw_below_drewN | apply below_drew1 | refine below_set ?_ GE106.out) | exact HB.out)))
            (case aF => exact (fun k_ hk => ⟨(.inr (Nat.le_trans (by first | exact HK.out.1 | exact (show Kept w _ (fun k_ => P0_ k_) from by repeat (first | (with_reducible first | exact HK.out | apply Kept.alloc | apply Kept.drewN | apply Kept.drew | refine Kept.setCell ?_ (.inr GW106.out) _) | exact HK.out)).1) hk)), Kd.fresh' (Kd.R_lt (by (with_reducible repeat (first | apply Kd.R_alloc | apply Kd.R_drewN | apply Kd.R_drew)); exact HO_0.out)) k_ hk, Kd.fresh' (Kd.R_lt (by (with_reducible repeat (first | apply Kd.R_alloc | apply Kd.R_drewN | apply Kd.R_drew)); exact HO122.out)) k_ hk, Kd.freshB (g := gb106) (o := .cells #[.int .i64 a1_0, .int .u64 a1_1, .int .u64 a1_2] 25 (0, 0)) (by (with_reducible repeat (first | refine blk_drewN ?_ _ | refine blk_drew ?_ | refine blk_alloc ?_ _)); exact BK106.out) k_ hk⟩))
            (case aO => exact (by (with_reducible repeat (first | apply Kd.R_alloc | apply Kd.R_drewN | apply Kd.R_drew)); exact Kd.R_mono HO119.out (fun _ hk => ⟨hk.1, ⟨hk.2.2.1, ⟨hk.2.1, hk.2.2.2⟩⟩⟩)))
            (case aS => exact (below_size (by repeat (first | (with_reducible first | exact HB.out | apply below_alloc | apply pw_below_drewN | apply below_drew1 | refine below_set ?_ GE106.out) | exact HB.out))))
            (case aL => have := LMc79.out; omega)
            intro v124 w95 ho hb hg hat
            rw [← Ny123.out] at ho
            have n0_ := Aside0.mk (Kd.R_after (ok := (fun k_ => (P0_ k_ ∨ w.heap.size ≤ k_) ∧ some k_ ≠ (.slice Ao96 y120.length co96 : Value).ownBlock ∧ k_ ≠ gb106)) (by (with_reducible repeat (first | apply Kd.R_alloc | apply Kd.R_drewN | apply Kd.R_drew)); exact Kd.R_mono HO_0.out (fun _ hk => ⟨⟨hk.1, ⟨hk.2.2.1, hk.2.2.2⟩⟩, hk.2.1⟩)) hg hat)
            have n1_ := Aside0.mk (blk_grown (g := gb106) (o := .cells #[.int .i64 a1_0, .int .u64 a1_1, .int .u64 a1_2] 25 (0, 0)) (by (with_reducible repeat (first | refine blk_drewN ?_ _ | refine blk_drew ?_ | refine blk_alloc ?_ _)); exact BK106.out) hg (Kd.R_away HO119.out (fun _ hk => hk.2.2.2)))
            have n2_ := Aside0.mk (Kd.R_after (ok := (fun k_ => (P0_ k_ ∨ w.heap.size ≤ k_) ∧ some k_ ≠ (.slice Ao84 l0.length co84 : Value).ownBlock ∧ k_ ≠ gb106)) (by (with_reducible repeat (first | apply Kd.R_alloc | apply Kd.R_drewN | apply Kd.R_drew)); exact Kd.R_mono HO122.out (fun _ hk => ⟨⟨hk.1, ⟨hk.2.2.1, hk.2.2.2⟩⟩, hk.2.1⟩)) hg hat)
            have n3_ := Aside0.mk (hb)
            have n4_ := Aside0.mk (Kept.of_grown (S := (fun k_ => P0_ k_)) hg (by repeat (first | (with_reducible first | exact HK.out | apply Kept.alloc | apply Kept.drewN | apply Kept.drew | refine Kept.setCell ?_ (.inr GW106.out) _) | exact HK.out)) (fun k_ e_ => (HO119.out.1 k_ e_).1))
            have n5_ := Aside0.mk (ho)
            clear HO_0
            clear BK106
            clear HO122
            clear HB
            clear HK
            clear HO119
            have HO_0 := n0_
            have BK106 := n1_
            have HO122 := n2_
            have HB := n3_
            have HK := n4_
            have HO125 := n5_
            clear n0_ n1_ n2_ n3_ n4_ n5_
            clear ho hb hg hat
            refine hK.out _ _ ⟨(blk_cell BK106.out 0).trans rfl, (blk_cell BK106.out 1).trans rfl, (blk_cell BK106.out 2).trans rfl⟩ (fun hHeld => ?_)
            clear hK K
            refine norm_ (a' := ?_) ?_ ?_
            rotate_left
            · show Act.put _ (some 47) _ = _
              simp only [Act.put, List.setIfInBounds_toArray, List.set_cons_zero, List.set_cons_succ, i64_w, i32_w, xu32_w, xu8_w]
              rfl
            refine pure_ (i := 9) (N := some 9) (v := ?_) (a' := ?_) #[true, true, true, true, true, true, true, true, true, true] rfl rfl (any_of HT_.out (by kernel_rfl)) (fun _ _ _ h => h) (Or.inl ⟨by rfl, ?_⟩) ?_ ?_
            rotate_left
            · intro w'
              go_simp
              with_reducible rfl
            rotate_left
            · simp only [Act.put, List.setIfInBounds_toArray, List.set_cons_zero, List.set_cons_succ, i64_w, i32_w, xu32_w, xu8_w]
              rfl
            refine done_ (done_of HT_.out (by kernel_rfl)) ?_
            have q97 : (t108 : Int) ≤ ((l0.length : Int) : Int) := of_decide_eq_true (by first | (with_reducible assumption) | assumption)
            obtain ⟨i097, hi097, _, hsz97, _⟩ := info_parts info25
            have hroom97 : l0.length ≤ co84 := (Kd.R_reads' HO_0.out).2.1
            have hC97 : Kd.C k25 _ Ao84 l0.length l0 := (Kd.R_reads' HO_0.out).2.2
            have q097 : (0 : Int) ≤ (t108 : Int) := of_decide_eq_true (by first | (with_reducible assumption) | assumption)
            have hcut97 := cut_from (P := Try.prog) 22 25 .i64 Try.underlying22 hi097 3 hsz97 Ao84 l0.length co84 t108 q097 q97
            have hr97 := Kd.C_drop (m := (t108 : Int).toNat) (c := co84) hC97 (by omega) hroom97
            obtain ⟨A97, hA97⟩ : ∃ A1, A1 = (if co84 = (t108 : Int).toNat then Ao84 else (Ao84 : Option Addr).map (·.add ((t108 : Int).toNat * 3))) := ⟨_, rfl⟩
            obtain ⟨c97, hc97⟩ : ∃ c1, c1 = co84 - (t108 : Int).toNat := ⟨_, rfl⟩
            have hy97 : y126.length = l0.length - (t108 : Int).toNat := (by rw [Ny126.out, List.length_drop] <;> omega)
            rw [show (l0).drop (t108 : Int).toNat = y126 from Ny126.out.symm] at hr97
            replace hr97 : Kd.C k25 _ A97 y126.length y126 := (by rw [hA97]; exact hr97)
            rw [← hy97, ← hA97, ← hc97] at hcut97
            have HR129 := Aside0.mk hr97
            have HC129 := Aside0.mk (show y126.length ≤ c97 from by rw [hy97, hc97]; exact Nat.sub_le_sub_right hroom97 _)
            clear hr97 hC97 hroom97 hi097 hsz97 hc97
            have KY97 := Aside0.mk hy97
            have KA97 := Aside0.mk hA97
            clear hy97 hA97
            have KL97 := Aside0.mk (show (t108 : Int).toNat ≤ l0.length from by omega)
            replace q97 := eq_true q97
            try go_wp2_with (first | ((with_reducible refine gate_builtin (b := .append) (xs := #[.tmp 48, .tmp 51]) rfl ?_); at_builtin; refine Kd.R_append_rows k25 (w0 := w0) w0.heap.size rfl (.tmp 48) (.tmp 51) 22 25 (.agg #[(.int .i64 0), (.int .u64 0), (.int .u64 0)]) 24 rfl Try.underlying22 info25 rfl (by decide) (by omega) v124 y123 y126 _ _ _ (fun k_ => (P0_ k_ ∨ w.heap.size ≤ k_) ∧ some k_ ≠ (.slice Ao84 l0.length co84 : Value).ownBlock ∧ some k_ ≠ (.slice Ao96 y120.length co96 : Value).ownBlock ∧ k_ ≠ gb106) (fun _ => False) rfl rfl ?aO ?aR (fun _ _ h => h) (fun _ h => h.elim) ?aF ?aB ?aS ?aL ?_; (case aR => repeat (first | exact (by repeat (first | (with_reducible exact HR129.out) | (with_reducible refine Kd.C_alloc ?_ _) | (with_reducible refine Kd.C_drewN ?_ _) | (with_reducible refine Kd.C_drew ?_) | exact HR129.out)) | (with_reducible refine Kd.C_alloc ?_ _) | (with_reducible refine Kd.C_drewN ?_ _) | (with_reducible refine Kd.C_drew ?_))); (case aB => exact (by repeat (first | (with_reducible first | exact HB.out | apply below_alloc | apply pw_below_drewN | apply below_drew1 | refine below_set ?_ GE106.out) | exact HB.out))); (case aF => exact (fun k_ hk => ⟨(.inr (Nat.le_trans (by first | exact HK.out.1 | exact (show Kept w _ (fun k_ => P0_ k_) from by repeat (first | (with_reducible first | exact HK.out | apply Kept.alloc | apply Kept.drewN | apply Kept.drew | refine Kept.setCell ?_ (.inr GW106.out) _) | exact HK.out)).1) hk)), Kd.fresh' (Kd.R_lt (by (with_reducible repeat (first | apply Kd.R_alloc | apply Kd.R_drewN | apply Kd.R_drew)); exact HO_0.out)) k_ hk, Kd.fresh' (Kd.R_lt (by (with_reducible repeat (first | apply Kd.R_alloc | apply Kd.R_drewN | apply Kd.R_drew)); exact HO122.out)) k_ hk, Kd.freshB (g := gb106) (o := .cells #[.int .i64 a1_0, .int .u64 a1_1, .int .u64 a1_2] 25 (0, 0)) (by (with_reducible repeat (first | refine blk_drewN ?_ _ | refine blk_drew ?_ | refine blk_alloc ?_ _)); exact BK106.out) k_ hk⟩)); (case aO => exact (by (with_reducible repeat (first | apply Kd.R_alloc | apply Kd.R_drewN | apply Kd.R_drew)); exact HO125.out)); (case aS => exact (below_size (by repeat (first | (with_reducible first | exact HB.out | apply below_alloc | apply pw_below_drewN | apply below_drew1 | refine below_set ?_ GE106.out) | exact HB.out)))); (case aL => have := LMc82.out; omega); intro v131 w98 ho hb hg hat; rw [← Ny130.out] at ho; have n0_ := Aside0.mk (Kd.R_after (ok := (fun k_ => (P0_ k_ ∨ w.heap.size ≤ k_) ∧ some k_ ≠ (.slice Ao96 y120.length co96 : Value).ownBlock ∧ k_ ≠ gb106)) (by (with_reducible repeat (first | apply Kd.R_alloc | apply Kd.R_drewN | apply Kd.R_drew)); exact HO_0.out) hg hat); have n1_ := Aside0.mk (blk_grown (g := gb106) (o := .cells #[.int .i64 a1_0, .int .u64 a1_1, .int .u64 a1_2] 25 (0, 0)) (by (with_reducible repeat (first | refine blk_drewN ?_ _ | refine blk_drew ?_ | refine blk_alloc ?_ _)); exact BK106.out) hg (Kd.R_away HO125.out (fun _ hk => hk.2.2.2))); have n2_ := Aside0.mk (Kd.R_after (ok := (fun k_ => (P0_ k_ ∨ w.heap.size ≤ k_) ∧ some k_ ≠ (.slice Ao84 l0.length co84 : Value).ownBlock ∧ k_ ≠ gb106)) (by (with_reducible repeat (first | apply Kd.R_alloc | apply Kd.R_drewN | apply Kd.R_drew)); exact HO122.out) hg hat); have n3_ := Aside0.mk (hb); have n4_ := Aside0.mk (Kept.of_grown (S := (fun k_ => P0_ k_)) hg (by repeat (first | (with_reducible first | exact HK.out | apply Kept.alloc | apply Kept.drewN | apply Kept.drew | refine Kept.setCell ?_ (.inr GW106.out) _) | exact HK.out)) (fun k_ e_ => (HO125.out.1 k_ e_).1)); have n5_ := Aside0.mk ((show Kd.C k25 w98 A97 y126.length y126 from by rw [Ny126.out, KA97.out]; exact Kd.C_drop (m := (t108 : Int).toNat) (c := co84) ((Kd.R_reads' (Kd.R_after (ok := (fun k_ => (P0_ k_ ∨ w.heap.size ≤ k_) ∧ some k_ ≠ (.slice Ao96 y120.length co96 : Value).ownBlock ∧ k_ ≠ gb106)) (by (with_reducible repeat (first | apply Kd.R_alloc | apply Kd.R_drewN | apply Kd.R_drew)); exact HO_0.out) hg hat)).2.2) KL97.out ((Kd.R_reads' (Kd.R_after (ok := (fun k_ => (P0_ k_ ∨ w.heap.size ≤ k_) ∧ some k_ ≠ (.slice Ao96 y120.length co96 : Value).ownBlock ∧ k_ ≠ gb106)) (by (with_reducible repeat (first | apply Kd.R_alloc | apply Kd.R_drewN | apply Kd.R_drew)); exact HO_0.out) hg hat)).2.1))); have n6_ := Aside0.mk (ho); clear HO_0; clear BK106; clear HO122; clear HB; clear HK; clear HR129; clear HO125; have HO_0 := n0_; have BK106 := n1_; have HO122 := n2_; have HB := n3_; have HK := n4_; have HR129 := n5_; have HO132 := n6_; clear n0_ n1_ n2_ n3_ n4_ n5_ n6_; clear ho hb hg hat))
            go_ret3
            exact ⟨_, by first | rfl | (simp [errW_none, errW_some] <;> rfl) | (simp only [← hji73]; first | rfl | (simp [errW_none, errW_some] <;> rfl)) | (simp [*, errW_none, errW_some] <;> rfl), by (with_reducible repeat (first | apply Kd.R_alloc | apply Kd.R_drewN | apply Kd.R_drew)); exact Kd.R_mono HO132.out (fun _ hk => hk.1), by repeat (first | (with_reducible first | exact HB.out | apply below_alloc | apply pw_below_drewN | apply below_drew1 | refine below_set ?_ GE106.out) | exact HB.out), by repeat (first | (with_reducible first | exact HK.out | apply Kept.alloc | apply Kept.drewN | apply Kept.drew | refine Kept.setCell ?_ (.inr GW106.out) _) | exact HK.out)⟩

end Go.Proofs.Ytfjhommpgbppjaa.R
