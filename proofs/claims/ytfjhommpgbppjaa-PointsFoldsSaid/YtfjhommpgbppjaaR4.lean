-- Laid by this session's turned edition of print.py out of the translation. Not trusted: Lean checks it.
import Derived.Test.YtfjhommpgbppjaaR0
import Derived.Test.YtfjhommpgbppjaaR1
namespace Go.Proofs.Ytfjhommpgbppjaa.R
open Go.RowKit Go.Proofs.YtfjhommpgbppjaaW.PrintWords Go.Proofs.YtfjhommpgbppjaaW.PrintLast Go.Proofs.YtfjhommpgbppjaaW.PrintMore
attribute [local go_sem] max2_int min2_int max_two min_two max_three min_three max_four min_four   -- for this text's walks alone
set_option linter.unusedVariables false
set_option linter.unusedSimpArgs false

/-! ### points_Merge: function 32 -/
mutual
def points_Merge.j0 : Nat → List (S25) → List (S25) → Bool → Option ((List (S25)) × Int)
  | 0, _, _, _ => none
  | k + 1, x0, x1, x15 => if x15 = true then (some (([] : List (S25)), 1)) else (if 0 ≤ (wrap64 ((x0.length : Int) + (x1.length : Int))) then (if (wrap64 ((x0.length : Int) + (x1.length : Int)) : Int).toNat ≤ 11728124029610 then (points_Merge.l0 k x0 x1 (([] : List (S25)))) else (none)) else (none))
def points_Merge.l0 : Nat → List (S25) → List (S25) → List (S25) → Option ((List (S25)) × Int)
  | 0, _, _, _ => none
  | k + 1, x0, x1, x6 => if (x0.length : Int) > 0 then (points_Merge.j2 k x0 x1 x6 true) else (points_Merge.j2 k x0 x1 x6 (decide ((x1.length : Int) > 0)))
def points_Merge.j2 : Nat → List (S25) → List (S25) → List (S25) → Bool → Option ((List (S25)) × Int)
  | 0, _, _, _, _ => none
  | k + 1, x0, x1, x6, x29 => if x29 = true then (if (x1.length : Int) = 0 then (points_Merge.j3 k x0 x1 x6 true) else (if (x0.length : Int) > 0 then (if 0 < (x0.length : Int) then (if 0 < (x1.length : Int) then (points_Merge.j3 k x0 x1 x6 (decide (((rd_T25 x0 0).f0) < ((rd_T25 x1 0).f0)))) else (none)) else (none)) else (points_Merge.j3 k x0 x1 x6 false))) else (if (x6.length : Int) > 65536 then (some (([] : List (S25)), 5)) else (some (x6, 0)))
def points_Merge.j3 : Nat → List (S25) → List (S25) → List (S25) → Bool → Option ((List (S25)) × Int)
  | 0, _, _, _, _ => none
  | k + 1, x0, x1, x6, x49 => if x49 = true then (if 0 < (x0.length : Int) then (if x6.length < 5864062014805 then (if 1 ≤ (x0.length : Int) then (points_Merge.l0 k (x0.drop 1) x1 (x6 ++ [(⟨(rd_T25 x0 0).f0, (rd_T25 x0 0).f1, (rd_T25 x0 0).f2⟩ : S25)])) else (none)) else (none)) else (none)) else (if (x0.length : Int) = 0 then (points_Merge.j4 k x0 x1 x6 true) else (if 0 < (x1.length : Int) then (if 0 < (x0.length : Int) then (points_Merge.j4 k x0 x1 x6 (decide (((rd_T25 x1 0).f0) < ((rd_T25 x0 0).f0)))) else (none)) else (none)))
def points_Merge.j4 : Nat → List (S25) → List (S25) → List (S25) → Bool → Option ((List (S25)) × Int)
  | 0, _, _, _, _ => none
  | k + 1, x0, x1, x6, x77 => if x77 = true then (if 0 < (x1.length : Int) then (if x6.length < 5864062014805 then (if 1 ≤ (x1.length : Int) then (points_Merge.l0 k x0 (x1.drop 1) (x6 ++ [(⟨(rd_T25 x1 0).f0, (rd_T25 x1 0).f1, (rd_T25 x1 0).f2⟩ : S25)])) else (none)) else (none)) else (none)) else (if 0 < (x0.length : Int) then (if 0 < (x1.length : Int) then ((points_Ahead.f ((rd_T25 x1 0).f0) ((rd_T25 x1 0).f1) ((rd_T25 x1 0).f2) ((rd_T25 x0 0).f0) ((rd_T25 x0 0).f1) ((rd_T25 x0 0).f2)).bind fun t203 => (if t203 = true then (if x6.length < 5864062014805 then (if 1 ≤ (x0.length : Int) then (if 1 ≤ (x1.length : Int) then (points_Merge.l0 k (x0.drop 1) (x1.drop 1) (x6 ++ [(⟨(rd_T25 x1 0).f0, (rd_T25 x1 0).f1, (rd_T25 x1 0).f2⟩ : S25)])) else (none)) else (none)) else (none)) else (if x6.length < 5864062014805 then (if 1 ≤ (x0.length : Int) then (if 1 ≤ (x1.length : Int) then (points_Merge.l0 k (x0.drop 1) (x1.drop 1) (x6 ++ [(⟨(rd_T25 x0 0).f0, (rd_T25 x0 0).f1, (rd_T25 x0 0).f2⟩ : S25)])) else (none)) else (none)) else (none)))) else (none)) else (none))
end
def points_Merge.f (k : Nat) (l0 : List (S25)) (l1 : List (S25)) : Option ((List (S25)) × Int) := (points_Right.f k l0).bind fun t173 => (if t173 = true then ((points_Right.f k l1).bind fun t174 => (points_Merge.j0 k l0 l1 (!t174))) else (points_Merge.j0 k l0 l1 true))
theorem points_Merge.mono_l : ∀ k, (∀ y0 y1 y2, LeO (points_Merge.j0 k y0 y1 y2) (points_Merge.j0 (k + 1) y0 y1 y2)) ∧ (∀ y0 y1 y2, LeO (points_Merge.l0 k y0 y1 y2) (points_Merge.l0 (k + 1) y0 y1 y2)) ∧ (∀ y0 y1 y2 y3, LeO (points_Merge.j2 k y0 y1 y2 y3) (points_Merge.j2 (k + 1) y0 y1 y2 y3)) ∧ (∀ y0 y1 y2 y3, LeO (points_Merge.j3 k y0 y1 y2 y3) (points_Merge.j3 (k + 1) y0 y1 y2 y3)) ∧ (∀ y0 y1 y2 y3, LeO (points_Merge.j4 k y0 y1 y2 y3) (points_Merge.j4 (k + 1) y0 y1 y2 y3))
  | 0 => ⟨fun _ _ _ r h => by simp [points_Merge.j0] at h, fun _ _ _ r h => by simp [points_Merge.l0] at h, fun _ _ _ _ r h => by simp [points_Merge.j2] at h, fun _ _ _ _ r h => by simp [points_Merge.j3] at h, fun _ _ _ _ r h => by simp [points_Merge.j4] at h⟩
  | k + 1 => by
    obtain ⟨ih0, ih1, ih2, ih3, ih4⟩ := points_Merge.mono_l k
    refine ⟨?_, ?_, ?_, ?_, ?_⟩
    · intro y0 y1 y2
      unfold points_Merge.j0
      repeat' first
      | (with_reducible exact ih0 _ _ _)
      | (with_reducible exact ih1 _ _ _)
      | (with_reducible exact ih2 _ _ _ _)
      | (with_reducible exact ih3 _ _ _ _)
      | (with_reducible exact ih4 _ _ _ _)
      | (with_reducible exact points_Right.mono _ _)
      | (with_reducible exact LeO.refl _)
      | (with_reducible exact LeO.none _)
      | (with_reducible refine LeO.ite ?_ ?_)
      | (with_reducible refine LeO.bind ?_ (fun _ => ?_))
      | exact ih0 _ _ _
      | exact ih1 _ _ _
      | exact ih2 _ _ _ _
      | exact ih3 _ _ _ _
      | exact ih4 _ _ _ _
      | exact points_Right.mono _ _
      | exact LeO.none _
      | refine LeO.ite ?_ ?_
      | refine LeO.bind ?_ (fun _ => ?_)
    · intro y0 y1 y2
      unfold points_Merge.l0
      repeat' first
      | (with_reducible exact ih0 _ _ _)
      | (with_reducible exact ih1 _ _ _)
      | (with_reducible exact ih2 _ _ _ _)
      | (with_reducible exact ih3 _ _ _ _)
      | (with_reducible exact ih4 _ _ _ _)
      | (with_reducible exact points_Right.mono _ _)
      | (with_reducible exact LeO.refl _)
      | (with_reducible exact LeO.none _)
      | (with_reducible refine LeO.ite ?_ ?_)
      | (with_reducible refine LeO.bind ?_ (fun _ => ?_))
      | exact ih0 _ _ _
      | exact ih1 _ _ _
      | exact ih2 _ _ _ _
      | exact ih3 _ _ _ _
      | exact ih4 _ _ _ _
      | exact points_Right.mono _ _
      | exact LeO.none _
      | refine LeO.ite ?_ ?_
      | refine LeO.bind ?_ (fun _ => ?_)
    · intro y0 y1 y2 y3
      unfold points_Merge.j2
      repeat' first
      | (with_reducible exact ih0 _ _ _)
      | (with_reducible exact ih1 _ _ _)
      | (with_reducible exact ih2 _ _ _ _)
      | (with_reducible exact ih3 _ _ _ _)
      | (with_reducible exact ih4 _ _ _ _)
      | (with_reducible exact points_Right.mono _ _)
      | (with_reducible exact LeO.refl _)
      | (with_reducible exact LeO.none _)
      | (with_reducible refine LeO.ite ?_ ?_)
      | (with_reducible refine LeO.bind ?_ (fun _ => ?_))
      | exact ih0 _ _ _
      | exact ih1 _ _ _
      | exact ih2 _ _ _ _
      | exact ih3 _ _ _ _
      | exact ih4 _ _ _ _
      | exact points_Right.mono _ _
      | exact LeO.none _
      | refine LeO.ite ?_ ?_
      | refine LeO.bind ?_ (fun _ => ?_)
    · intro y0 y1 y2 y3
      unfold points_Merge.j3
      repeat' first
      | (with_reducible exact ih0 _ _ _)
      | (with_reducible exact ih1 _ _ _)
      | (with_reducible exact ih2 _ _ _ _)
      | (with_reducible exact ih3 _ _ _ _)
      | (with_reducible exact ih4 _ _ _ _)
      | (with_reducible exact points_Right.mono _ _)
      | (with_reducible exact LeO.refl _)
      | (with_reducible exact LeO.none _)
      | (with_reducible refine LeO.ite ?_ ?_)
      | (with_reducible refine LeO.bind ?_ (fun _ => ?_))
      | exact ih0 _ _ _
      | exact ih1 _ _ _
      | exact ih2 _ _ _ _
      | exact ih3 _ _ _ _
      | exact ih4 _ _ _ _
      | exact points_Right.mono _ _
      | exact LeO.none _
      | refine LeO.ite ?_ ?_
      | refine LeO.bind ?_ (fun _ => ?_)
    · intro y0 y1 y2 y3
      unfold points_Merge.j4
      repeat' first
      | (with_reducible exact ih0 _ _ _)
      | (with_reducible exact ih1 _ _ _)
      | (with_reducible exact ih2 _ _ _ _)
      | (with_reducible exact ih3 _ _ _ _)
      | (with_reducible exact ih4 _ _ _ _)
      | (with_reducible exact points_Right.mono _ _)
      | (with_reducible exact LeO.refl _)
      | (with_reducible exact LeO.none _)
      | (with_reducible refine LeO.ite ?_ ?_)
      | (with_reducible refine LeO.bind ?_ (fun _ => ?_))
      | exact ih0 _ _ _
      | exact ih1 _ _ _
      | exact ih2 _ _ _ _
      | exact ih3 _ _ _ _
      | exact ih4 _ _ _ _
      | exact points_Right.mono _ _
      | exact LeO.none _
      | refine LeO.ite ?_ ?_
      | refine LeO.bind ?_ (fun _ => ?_)
theorem points_Merge.mono : ∀ a0 a1 k, LeO (points_Merge.f k a0 a1) (points_Merge.f (k + 1) a0 a1) := by
  intro a0 a1 k
  obtain ⟨ih0, ih1, ih2, ih3, ih4⟩ := points_Merge.mono_l k
  unfold points_Merge.f
  repeat' first
      | (with_reducible exact ih0 _ _ _)
      | (with_reducible exact ih1 _ _ _)
      | (with_reducible exact ih2 _ _ _ _)
      | (with_reducible exact ih3 _ _ _ _)
      | (with_reducible exact ih4 _ _ _ _)
      | (with_reducible exact points_Right.mono _ _)
      | (with_reducible exact LeO.refl _)
      | (with_reducible exact LeO.none _)
      | (with_reducible refine LeO.ite ?_ ?_)
      | (with_reducible refine LeO.bind ?_ (fun _ => ?_))
      | exact ih0 _ _ _
      | exact ih1 _ _ _
      | exact ih2 _ _ _ _
      | exact ih3 _ _ _ _
      | exact ih4 _ _ _ _
      | exact points_Right.mono _ _
      | exact LeO.none _
      | refine LeO.ite ?_ ?_
      | refine LeO.bind ?_ (fun _ => ?_)
def points_Merge.T10 : Bool × List (List Nat × List Nat) := (true, [([], []), ([0], [0]), ([1], [1]), ([2], [2]), ([3], [3]), ([4, 3], [3, 4]), ([5, 3], [3, 5]), ([6, 3, 3], [3, 6]), ([7], [7]), ([8, 7], [7, 8]), ([9, 7], [7, 9]), ([10, 7], [7, 10]), ([7], [7]), ([12, 7], [7, 12]), ([13, 7], [7, 13]), ([14, 7], [7, 14]), ([11, 15, 7], [7, 11, 15]), ([7, 16, 3], [3, 7, 16]), ([3, 17], [3, 17]), ([18, 7], [18])])
def points_Merge.B10 : List Nat := [0, 1, 3, 7, 15, 31, 63, 127, 255, 511, 1023, 2047, 255, 4351, 12543, 28927, 65535, 131071, 262143, 524287]
theorem points_Merge.tab10 : rtab .any (opsOf Try.f32 10) = points_Merge.T10 := by kernel_rfl
theorem points_Merge.bits10 : waitsOk points_Merge.T10.2 points_Merge.B10 = true := by kernel_rfl
def points_Merge.T13 : Bool × List (List Nat × List Nat) := (true, [([], []), ([0], [0]), ([1], [1]), ([2], [2]), ([3], [3]), ([4, 3], [3, 4]), ([5, 3], [3, 5]), ([6, 3], [3, 6]), ([3], [3]), ([8, 3], [3, 8]), ([9, 3], [3, 9]), ([10, 3], [3, 10]), ([7, 11, 3], [3, 7, 11]), ([3, 12], [3, 12]), ([13, 3], [13])])
def points_Merge.B13 : List Nat := [0, 1, 3, 7, 15, 31, 63, 127, 15, 271, 783, 1807, 4095, 8191, 16383]
theorem points_Merge.tab13 : rtab .any (opsOf Try.f32 13) = points_Merge.T13 := by kernel_rfl
theorem points_Merge.bits13 : waitsOk points_Merge.T13.2 points_Merge.B13 = true := by kernel_rfl
set_option maxHeartbeats 8000000 in
set_option maxRecDepth 100000 in
theorem points_Merge.calls (k : Nat) (P0_ : Nat → Prop) (A0 : Option Addr) (c0 : Nat) (l0 : List (S25)) (P1_ : Nat → Prop) (A1 : Option Addr) (c1 : Nat) (l1 : List (S25)) (r1 : List (S25)) (r2 : Int) (w : World) (hs0 : Kd.V k25 25 w w.heap.size (fun k_ => P0_ k_) (.slice A0 l0.length c0) l0) (hs1 : Kd.V k25 25 w w.heap.size (fun k_ => P1_ k_) (.slice A1 l1.length c1) l1) (h : points_Merge.f k l0 l1 = some (r1, r2)) :
    Calls Try.prog 32 #[.slice A0 l0.length c0, .slice A1 l1.length c1] w fun e w' => ∃ v0_ : Value, e = .returned (.tuple #[v0_, .int .i64 r2]) ∧ Kd.R k25 25 w' w.heap.size (fun k_ => (w.heap.size ≤ k_)) v0_ r1 ∧ Below w.heap.size w w' := by
  have hu25 := Try.underlying25
  have HO0 := Aside0.mk (show Kd.V k25 25 w w.heap.size (fun k_ => ((P0_ k_ ∨ P1_ k_) ∨ w.heap.size ≤ k_)) (.slice A0 l0.length c0) l0 from Kd.V_mono hs0 (fun k_ hk => .inl (.inl hk)))
  have HO1 := Aside0.mk (show Kd.V k25 25 w w.heap.size (fun k_ => ((P0_ k_ ∨ P1_ k_) ∨ w.heap.size ≤ k_)) (.slice A1 l1.length c1) l1 from Kd.V_mono hs1 (fun k_ hk => .inl (.inr hk)))
  have HB := Aside0.mk (Below.refl w.heap.size w)
  have H : ((points_Right.f k l0).bind fun t173 => (if t173 = true then ((points_Right.f k l1).bind fun t174 => (points_Merge.j0 k l0 l1 (!t174))) else (points_Merge.j0 k l0 l1 true))) = some (r1, r2) := h
  clear h
  have HC3 := Aside0.mk H
  clear H
  go_enter Try.func32, Try.ntmps32
  go_upto_region 1 with (fail)
  go_cut [15] (fun v15 wc => ∃ (kq : Nat) (x15_2 : Bool), v15 = .bool x15_2 ∧ Aside0 (points_Merge.j0 kq l0 l1 x15_2 = some (r1, r2)) ∧ Aside0 (kq ≤ k) ∧ Aside0 (Kd.V k25 25 wc w.heap.size (fun k_ => ((P0_ k_ ∨ P1_ k_) ∨ w.heap.size ≤ k_)) (.slice A0 l0.length c0) l0) ∧ Aside0 (Kd.V k25 25 wc w.heap.size (fun k_ => ((P0_ k_ ∨ P1_ k_) ∨ w.heap.size ≤ k_)) (.slice A1 l1.length c1) l1) ∧ Aside0 (Below w.heap.size w wc))
  case first =>
    have H := HC3.out
    clear HC3
    replace H := Option.bind_eq_some_iff.mp H
    obtain ⟨t173, A40, H⟩ := H
    replace H : (if t173 = true then ((points_Right.f k l1).bind fun t174 => (points_Merge.j0 k l0 l1 (!t174))) else (points_Merge.j0 k l0 l1 true)) = some (r1, r2) := H
    have A4 := Aside0.mk A40
    clear A40
    by_cases c5 : t173 = true
    · subst c5
      have H1 : ((points_Right.f k l1).bind fun t174 => (points_Merge.j0 k l0 l1 (!t174))) = some (r1, r2) := by rw [if_pos rfl] at H; exact H
      clear H
      have H := H1
      clear H1
      replace H := Option.bind_eq_some_iff.mp H
      obtain ⟨t174, A60, H⟩ := H
      replace H : (points_Merge.j0 k l0 l1 (!t174)) = some (r1, r2) := H
      have A6 := Aside0.mk A60
      clear A60
      have H' := Aside0.mk H
      clear H
      go_wp2_with (first | ((with_reducible refine gate_callee (f := 14) rfl ?_); refine goesL_ (some 9) rfl rfl Try.func14 (by kernel_rfl) rfl #[.slice A0 l0.length c0] rfl (by (try simp only [List.map_toArray, List.map_cons, List.map_nil]); first | done | rfl | (simp only [List.length_drop, List.length_take]; rfl)) ?_; (with_reducible refine (points_Right.calls k _ _ l0 true _ ?side1 ?side2 A4.out).mono ?_); (case side1 => repeat (first | exact (Kd.V_reads' HO0.out).2.2 | (with_reducible refine Kd.C_alloc ?_ _) | (with_reducible refine Kd.C_drewN ?_ _) | (with_reducible refine Kd.C_drew ?_))); (case side2 => exact (Kd.V_reads' HO0.out).2.1); rintro e w7 ⟨rfl, hb⟩; refine ⟨_, rfl, ?_⟩; have n0_ := Aside0.mk (Kd.V_below (by (with_reducible repeat (first | apply Kd.V_alloc | apply Kd.V_drewN | apply Kd.V_drew)); exact HO0.out) hb); have n1_ := Aside0.mk (Kd.V_below (by (with_reducible repeat (first | apply Kd.V_alloc | apply Kd.V_drewN | apply Kd.V_drew)); exact HO1.out) hb); have n2_ := Aside0.mk (below_step (by repeat (first | (with_reducible first | exact HB.out | apply below_alloc | apply pw_below_drewN | apply below_drew1) | exact HB.out)) hb); clear HO0; clear HO1; clear HB; have HO0 := n0_; have HO1 := n1_; have HB := n2_; clear n0_ n1_ n2_; (try clear hb); (try clear hb2); (try clear hk); (try clear hi)) | (go_at_call 14; (with_reducible refine (points_Right.calls k _ _ l1 t174 _ ?side1 ?side2 A6.out).mono ?_); (case side1 => repeat (first | exact (Kd.V_reads' HO1.out).2.2 | (with_reducible refine Kd.C_alloc ?_ _) | (with_reducible refine Kd.C_drewN ?_ _) | (with_reducible refine Kd.C_drew ?_))); (case side2 => exact (Kd.V_reads' HO1.out).2.1); rintro e w8 ⟨rfl, hb⟩; have n0_ := Aside0.mk (Kd.V_below (by (with_reducible repeat (first | apply Kd.V_alloc | apply Kd.V_drewN | apply Kd.V_drew)); exact HO0.out) hb); have n1_ := Aside0.mk (Kd.V_below (by (with_reducible repeat (first | apply Kd.V_alloc | apply Kd.V_drewN | apply Kd.V_drew)); exact HO1.out) hb); have n2_ := Aside0.mk (below_step (by repeat (first | (with_reducible first | exact HB.out | apply below_alloc | apply pw_below_drewN | apply below_drew1) | exact HB.out)) hb); clear HO0; clear HO1; clear HB; have HO0 := n0_; have HO1 := n1_; have HB := n2_; clear n0_ n1_ n2_; (try clear hb); (try clear hb2); (try clear hk); (try clear hi)))
      go_meet
      case rel => exact ⟨_, (!t174), (by first | rfl | (simp; done) | (simp [*]; done)), H', ⟨by first | omega | exact Nat.le_refl _⟩, ⟨by (with_reducible repeat (first | apply Kd.V_alloc | apply Kd.V_drewN | apply Kd.V_drew)); exact HO0.out⟩, ⟨by (with_reducible repeat (first | apply Kd.V_alloc | apply Kd.V_drewN | apply Kd.V_drew)); exact HO1.out⟩, ⟨by repeat (first | (with_reducible first | exact HB.out | apply below_alloc | apply pw_below_drewN | apply below_drew1) | exact HB.out)⟩⟩
    · replace c5 := Bool.eq_false_iff.mpr c5
      subst c5
      have H1 : (points_Merge.j0 k l0 l1 true) = some (r1, r2) := by rw [if_neg (show ¬ (false = true) by decide)] at H; exact H
      clear H
      have H := H1
      clear H1
      have H' := Aside0.mk H
      clear H
      go_wp2_with (first | ((with_reducible refine gate_callee (f := 14) rfl ?_); refine goesL_ (some 9) rfl rfl Try.func14 (by kernel_rfl) rfl #[.slice A0 l0.length c0] rfl (by (try simp only [List.map_toArray, List.map_cons, List.map_nil]); first | done | rfl | (simp only [List.length_drop, List.length_take]; rfl)) ?_; (with_reducible refine (points_Right.calls k _ _ l0 false _ ?side1 ?side2 A4.out).mono ?_); (case side1 => repeat (first | exact (Kd.V_reads' HO0.out).2.2 | (with_reducible refine Kd.C_alloc ?_ _) | (with_reducible refine Kd.C_drewN ?_ _) | (with_reducible refine Kd.C_drew ?_))); (case side2 => exact (Kd.V_reads' HO0.out).2.1); rintro e w9 ⟨rfl, hb⟩; refine ⟨_, rfl, ?_⟩; have n0_ := Aside0.mk (Kd.V_below (by (with_reducible repeat (first | apply Kd.V_alloc | apply Kd.V_drewN | apply Kd.V_drew)); exact HO0.out) hb); have n1_ := Aside0.mk (Kd.V_below (by (with_reducible repeat (first | apply Kd.V_alloc | apply Kd.V_drewN | apply Kd.V_drew)); exact HO1.out) hb); have n2_ := Aside0.mk (below_step (by repeat (first | (with_reducible first | exact HB.out | apply below_alloc | apply pw_below_drewN | apply below_drew1) | exact HB.out)) hb); clear HO0; clear HO1; clear HB; have HO0 := n0_; have HO1 := n1_; have HB := n2_; clear n0_ n1_ n2_; (try clear hb); (try clear hb2); (try clear hk); (try clear hi)))
      go_meet
      case rel => exact ⟨_, (true), (by first | rfl | (simp; done) | (simp [*]; done)), H', ⟨by first | omega | exact Nat.le_refl _⟩, ⟨by (with_reducible repeat (first | apply Kd.V_alloc | apply Kd.V_drewN | apply Kd.V_drew)); exact HO0.out⟩, ⟨by (with_reducible repeat (first | apply Kd.V_alloc | apply Kd.V_drewN | apply Kd.V_drew)); exact HO1.out⟩, ⟨by repeat (first | (with_reducible first | exact HB.out | apply below_alloc | apply pw_below_drewN | apply below_drew1) | exact HB.out)⟩⟩
  case rest =>
    clear HC3
    try clear c1
    try clear p2
    try clear c3
    try clear c5
    obtain ⟨kq, x15_2, rfl, HA, HJ2, HO_0, HO_1, HB⟩ := hcut
    cases kq with
    | zero => exact absurd HA.out (by simp [points_Merge.j0])
    | succ kj2 =>
      have H := HA.out
      clear HA
      simp only [points_Merge.j0] at H
      by_cases c10 : x15_2 = true
      · subst c10
        have H1 : (some (([] : List (S25)), 1)) = some (r1, r2) := by rw [if_pos rfl] at H; exact H
        clear H
        have H := H1
        clear H1
        simp only [Option.some.injEq, Prod.mk.injEq] at H
        obtain ⟨rfl, rfl⟩ := H
        go_wp2
        go_ret2
        exact ⟨_, by first | rfl | (simp [errW_none, errW_some] <;> rfl) | (simp [*, errW_none, errW_some] <;> rfl), by first | exact Kd.R_nil _ _ _ _ _ | exact Kd.N_nil _ _ _ _ _ | exact Kd.V_nil _ _ _ _ _ | exact Kd.Q_nil _ _ _ _ _ | exact Kd.S_nil _ _ _ _ _, by repeat (first | (with_reducible first | exact HB.out | apply below_alloc | apply pw_below_drewN | apply below_drew1) | exact HB.out)⟩
      · replace c10 := Bool.eq_false_iff.mpr c10
        subst c10
        have H1 : (if 0 ≤ (wrap64 ((l0.length : Int) + (l1.length : Int))) then (if (wrap64 ((l0.length : Int) + (l1.length : Int)) : Int).toNat ≤ 11728124029610 then (points_Merge.l0 kj2 l0 l1 (([] : List (S25)))) else (none)) else (none)) = some (r1, r2) := by rw [if_neg (show ¬ (false = true) by decide)] at H; exact H
        clear H
        have H := H1
        clear H1
        obtain ⟨ji11, hji11⟩ : ∃ j_ : Int, (wrap64 ((l0.length : Int) + (l1.length : Int))) = j_ := ⟨_, rfl⟩
        replace H : (if 0 ≤ (ji11) then (if (ji11 : Int).toNat ≤ 11728124029610 then (points_Merge.l0 kj2 l0 l1 (([] : List (S25)))) else (none)) else (none)) = some (r1, r2) := by first | (rw [hji11] at H; exact H) | (simp only [hji11] at H ⊢; exact H)
        have hji11w : (IntKind.i64.wrap ((l0.length : Int) + (l1.length : Int))) = ji11 := (i64_w _).trans hji11
        by_cases c12 : 0 ≤ (ji11)
        rotate_left
        · rw [if_neg c12] at H
          exact absurd H (by simp)
        rw [if_pos c12] at H
        have c12b0 := eq_true c12
        have c12b1 : decide (0 ≤ (ji11)) = true := decide_eq_true c12
        clear c12
        by_cases c13 : (ji11 : Int).toNat ≤ 11728124029610
        rotate_left
        · rw [if_neg c13] at H
          exact absurd H (by simp)
        rw [if_pos c13] at H
        have c13b0 := eq_true c13
        have c13b1 : decide ((ji11 : Int).toNat ≤ 11728124029610) = true := decide_eq_true c13
        clear c13
        obtain ⟨y175, hy175⟩ : ∃ y_ : List (S25), y_ = (([] : List (S25))) := ⟨_, rfl⟩
        replace H : (points_Merge.l0 kj2 l0 l1 y175) = some (r1, r2) := by first | (rw [hy175]; with_reducible exact H) | (have H2_ := (Option.bind_some _ _).symm.trans H; rw [hy175]; with_reducible exact H2_) | (have H2_ := (Option.bind_some _ _).symm.trans H; with_reducible exact H2_) | with_reducible exact H | (rw [hy175]; exact H) | exact H
        have Ny175 := Aside0.mk hy175
        clear hy175
        have H' := Aside0.mk H
        clear H
        go_wp2_with (first | ((with_reducible refine gate_dst (N := 21) rfl ?_); (try (refine gate_guard (by rfl) ?_; dsimp only)); refine Kd.R_make0 k25 _ 25 rfl (N := 21) rfl 22 _ _ rfl ji11 rfl rfl Try.underlying22 (.agg #[(.int .i64 0), (.int .u64 0), (.int .u64 0)]) 24 info25 (by decide) (ok := fun _ => True) trivial (of_decide_eq_true (by first | (with_reducible assumption) | assumption)) (Nat.le_trans (Nat.mul_le_mul_right _ (of_decide_eq_true (by first | (with_reducible assumption) | assumption) : ji11.toNat ≤ 11728124029610)) (by omega)) (Below.refl _ _) (Nat.le_refl _) ?_; intro v176 w14 ho15 hb hg_ hnew_; clear hg_ hnew_; (first | rw [← Ny175.out] at ho15 | (simp only [Int.reduceToNat] at ho15; rw [← Ny175.out] at ho15)); have n0_ := Aside0.mk (Kd.V_elder' (by (with_reducible repeat (first | apply Kd.V_alloc | apply Kd.V_drewN | apply Kd.V_drew)); exact HO_0.out) (Kd.R_base ho15) hb); have n1_ := Aside0.mk (Kd.V_elder' (by (with_reducible repeat (first | apply Kd.V_alloc | apply Kd.V_drewN | apply Kd.V_drew)); exact HO_1.out) (Kd.R_base ho15) hb); have n2_ := Aside0.mk (Kd.R_lower (Kd.R_newM (M := fun k_ => (w.heap.size ≤ k_)) ho15 (below_size (by repeat (first | (with_reducible first | exact HB.out | apply below_alloc | apply pw_below_drewN | apply below_drew1) | exact HB.out))) (fun k_ h_ => h_)) (below_size (by repeat (first | (with_reducible first | exact HB.out | apply below_alloc | apply pw_below_drewN | apply below_drew1) | exact HB.out)))); have n3_ := Aside0.mk (below_step (by repeat (first | (with_reducible first | exact HB.out | apply below_alloc | apply pw_below_drewN | apply below_drew1) | exact HB.out)) hb); clear HO_0; clear HO_1; clear HB; have HO_0 := n0_; have HO_1 := n1_; have HO177 := n2_; have HB := n3_; clear n0_ n1_ n2_ n3_; clear hb ho15))
        go_loopg [0, 1, 6] kj2 (fun kq v0 v1 v6 w' => ∃ (x0_2 : List (S25)) (x1_2 : List (S25)) (x6_2 : List (S25)), Aside0 (points_Merge.l0 kq x0_2 x1_2 x6_2 = some (r1, r2)) ∧ Aside0 (kq ≤ kj2) ∧ Aside0 (Kd.V k25 25 w' w.heap.size (fun k_ => ((P0_ k_ ∨ P1_ k_) ∨ w.heap.size ≤ k_) ∧ some k_ ≠ (v6 : Value).ownBlock) v0 x0_2) ∧ Aside0 (Kd.V k25 25 w' w.heap.size (fun k_ => ((P0_ k_ ∨ P1_ k_) ∨ w.heap.size ≤ k_) ∧ some k_ ≠ (v6 : Value).ownBlock) v1 x1_2) ∧ Aside0 (Kd.R k25 25 w' w.heap.size (fun k_ => (w.heap.size ≤ k_)) v6 x6_2) ∧ Aside0 (Below w.heap.size w w'))
        case atStart => exact ⟨(l0), (l1), (y175), H', ⟨Nat.le_refl _⟩, ⟨by (with_reducible repeat (first | apply Kd.V_alloc | apply Kd.V_drewN | apply Kd.V_drew)); exact HO_0.out⟩, ⟨by (with_reducible repeat (first | apply Kd.V_alloc | apply Kd.V_drewN | apply Kd.V_drew)); exact HO_1.out⟩, ⟨by (with_reducible repeat (first | apply Kd.R_alloc | apply Kd.R_drewN | apply Kd.R_drew)); exact Kd.R_mono HO177.out (fun _ hk => hk.1)⟩, ⟨by repeat (first | (with_reducible first | exact HB.out | apply below_alloc | apply pw_below_drewN | apply below_drew1) | exact HB.out)⟩⟩
        case round =>
          clear H'
          try clear c1
          try clear p2
          try clear c3
          try clear c5
          try clear p6
          try clear c10
          try clear c12
          try clear c12b0
          try clear c12b1
          try clear c13
          try clear c13b0
          try clear c13b1
          try clear c14
          try clear p2
          obtain ⟨x0_2, x1_2, x6_2, HA, HK2, HO_0, HO_1, HO_6, HB⟩ := hrel
          cases gk with
          | zero => exact absurd HA.out (by simp [points_Merge.l0])
          | succ k2 =>
            have H := HA.out
            clear HA
            simp only [points_Merge.l0] at H
            have HC16 := Aside0.mk H
            clear H
            go_upto_region 4 with (fail)
            go_cut [29] (fun v29 wc => ∃ (kq : Nat) (x29_15 : Bool), v29 = .bool x29_15 ∧ Aside0 (points_Merge.j2 kq x0_2 x1_2 x6_2 x29_15 = some (r1, r2)) ∧ Aside0 (kq ≤ k2) ∧ Aside0 (Kd.V k25 25 wc w.heap.size (fun k_ => ((P0_ k_ ∨ P1_ k_) ∨ w.heap.size ≤ k_) ∧ some k_ ≠ (u6 : Value).ownBlock) u0 x0_2) ∧ Aside0 (Kd.V k25 25 wc w.heap.size (fun k_ => ((P0_ k_ ∨ P1_ k_) ∨ w.heap.size ≤ k_) ∧ some k_ ≠ (u6 : Value).ownBlock) u1 x1_2) ∧ Aside0 (Kd.R k25 25 wc w.heap.size (fun k_ => (w.heap.size ≤ k_)) u6 x6_2) ∧ Aside0 (Below w.heap.size w wc))
            case first =>
              have H := HC16.out
              clear HC16
              by_cases c17 : (x0_2.length : Int) > 0
              · rw [if_pos c17] at H
                have c17b0 : decide (0 < (x0_2.length : Int)) = true := decide_eq_true c17
                have c17b1 : decide (0 < x0_2.length) = true := decide_eq_true (by omega)
                clear c17
                (first | rw [c17b0] | (simp only [i64_w, i32_w, xu32_w, xu8_w]; rw [c17b0]) | skip)
                have H' := Aside0.mk H
                clear H
                obtain ⟨Ao18, co18, eo18⟩ := Kd.V_slice HO_0.out
                subst eo18
                go_wp2
                go_meet
                case rel => exact ⟨_, (true), (by first | rfl | (simp; done) | (simp [*]; done)), H', ⟨by have := HJ2.out; have := HK2.out; first | omega | exact Nat.le_refl _⟩, ⟨by (with_reducible repeat (first | apply Kd.V_alloc | apply Kd.V_drewN | apply Kd.V_drew)); exact HO_0.out⟩, ⟨by (with_reducible repeat (first | apply Kd.V_alloc | apply Kd.V_drewN | apply Kd.V_drew)); exact HO_1.out⟩, ⟨by (with_reducible repeat (first | apply Kd.R_alloc | apply Kd.R_drewN | apply Kd.R_drew)); exact HO_6.out⟩, ⟨by repeat (first | (with_reducible first | exact HB.out | apply below_alloc | apply pw_below_drewN | apply below_drew1) | exact HB.out)⟩⟩
              · rw [if_neg c17] at H
                have c17b0 : decide (0 < (x0_2.length : Int)) = false := decide_eq_false c17
                have c17b1 : decide (0 < x0_2.length) = false := decide_eq_false (by omega)
                clear c17
                (first | rw [c17b0] | (simp only [i64_w, i32_w, xu32_w, xu8_w]; rw [c17b0]) | skip)
                have H' := Aside0.mk H
                clear H
                obtain ⟨Ao19, co19, eo19⟩ := Kd.V_slice HO_0.out
                subst eo19
                obtain ⟨Ao20, co20, eo20⟩ := Kd.V_slice HO_1.out
                subst eo20
                go_wp2
                go_meet
                case rel => exact ⟨_, (decide ((x1_2.length : Int) > 0)), (by first | rfl | (simp; done) | (simp [*]; done)), H', ⟨by have := HJ2.out; have := HK2.out; first | omega | exact Nat.le_refl _⟩, ⟨by (with_reducible repeat (first | apply Kd.V_alloc | apply Kd.V_drewN | apply Kd.V_drew)); exact HO_0.out⟩, ⟨by (with_reducible repeat (first | apply Kd.V_alloc | apply Kd.V_drewN | apply Kd.V_drew)); exact HO_1.out⟩, ⟨by (with_reducible repeat (first | apply Kd.R_alloc | apply Kd.R_drewN | apply Kd.R_drew)); exact HO_6.out⟩, ⟨by repeat (first | (with_reducible first | exact HB.out | apply below_alloc | apply pw_below_drewN | apply below_drew1) | exact HB.out)⟩⟩
            case rest =>
              clear HC16
              try clear c1
              try clear p2
              try clear c3
              try clear c5
              try clear p6
              try clear c10
              try clear c12
              try clear c12b0
              try clear c12b1
              try clear c13
              try clear c13b0
              try clear c13b1
              try clear c14
              try clear c17
              try clear c17b0
              try clear c17b1
              try clear p2
              try clear p6
              obtain ⟨kq, x29_15, rfl, HA, HJ15, HO_0, HO_1, HO_6, HB⟩ := hcut
              cases kq with
              | zero => exact absurd HA.out (by simp [points_Merge.j2])
              | succ kj15 =>
                have H := HA.out
                clear HA
                simp only [points_Merge.j2] at H
                by_cases c21 : x29_15 = true
                · subst c21
                  have H1 : (if (x1_2.length : Int) = 0 then (points_Merge.j3 kj15 x0_2 x1_2 x6_2 true) else (if (x0_2.length : Int) > 0 then (if 0 < (x0_2.length : Int) then (if 0 < (x1_2.length : Int) then (points_Merge.j3 kj15 x0_2 x1_2 x6_2 (decide (((rd_T25 x0_2 0).f0) < ((rd_T25 x1_2 0).f0)))) else (none)) else (none)) else (points_Merge.j3 kj15 x0_2 x1_2 x6_2 false))) = some (r1, r2) := by rw [if_pos rfl] at H; exact H
                  clear H
                  have H := H1
                  clear H1
                  have HC22 := Aside0.mk H
                  clear H
                  go_upto_region 10 with (fail)
                  go_cut [49] (fun v49 wc => ∃ (kq : Nat) (x49_21 : Bool), v49 = .bool x49_21 ∧ Aside0 (points_Merge.j3 kq x0_2 x1_2 x6_2 x49_21 = some (r1, r2)) ∧ Aside0 (kq ≤ kj15) ∧ Aside0 (Kd.V k25 25 wc w.heap.size (fun k_ => ((P0_ k_ ∨ P1_ k_) ∨ w.heap.size ≤ k_) ∧ some k_ ≠ (u6 : Value).ownBlock) u0 x0_2) ∧ Aside0 (Kd.V k25 25 wc w.heap.size (fun k_ => ((P0_ k_ ∨ P1_ k_) ∨ w.heap.size ≤ k_) ∧ some k_ ≠ (u6 : Value).ownBlock) u1 x1_2) ∧ Aside0 (Kd.R k25 25 wc w.heap.size (fun k_ => (w.heap.size ≤ k_)) u6 x6_2) ∧ Aside0 (Below w.heap.size w wc))
                  case first =>
                    have H := HC22.out
                    clear HC22
                    by_cases c23 : (x1_2.length : Int) = 0
                    · rw [if_pos c23] at H
                      have c23b0 : ((x1_2.length : Int) == 0) = true := beq_iff_eq.mpr c23
                      have c23b1 : ((x1_2.length : Int) != 0) = false := bne_eq_false_iff_eq.mpr c23
                      clear c23
                      (first | rw [c23b0] | (simp only [i64_w, i32_w, xu32_w, xu8_w]; rw [c23b0]) | skip)
                      have H' := Aside0.mk H
                      clear H
                      try go_wp2
                      have n0_ := Aside0.mk (Kd.V_drew HO_0.out)
                      have n1_ := Aside0.mk (Kd.V_drew HO_1.out)
                      have n2_ := Aside0.mk (Kd.R_drew HO_6.out)
                      have n3_ := Aside0.mk (below_drew1 HB.out)
                      clear HO_0
                      clear HO_1
                      clear HO_6
                      clear HB
                      have HO_0 := n0_
                      have HO_1 := n1_
                      have HO_6 := n2_
                      have HB := n3_
                      clear n0_ n1_ n2_ n3_
                      obtain ⟨Ao25, co25, eo25⟩ := Kd.V_slice HO_1.out
                      (first | subst eo25 | (injection eo25 with f1_ f2_ f3_; have f4_ := f1_.symm; have f5_ := f3_.symm; clear f1_ f2_ f3_; subst f4_; subst f5_))
                      refine start_ (n := 20) (S := fun w' => True) (ds := []) #[false, false, false, false, false, false, false, false, false, false, false, false, false, false, false, false, false, false, false, false] (by kernel_rfl) rfl rfl trivial (fun hHeld => ?_); refine with_tabW points_Merge.tab10 points_Merge.bits10 (fun HT_ HW_ => ?_)
                      generalize wc.drew = w24 at HO_0 HO_1 HO_6 HB hHeld ⊢
                      refine pure_ (i := 0) (N := some 50) (v := ?_) (a' := ?_) #[true, false, false, false, false, false, false, false, false, false, false, false, false, false, false, false, false, false, false, false] rfl rfl (any_of HT_.out (by kernel_rfl)) (fun _ _ _ h => h) (Or.inl ⟨by rfl, ?_⟩) ?_ ?_
                      rotate_left
                      · intro w'
                        go_simp
                        with_reducible rfl
                      rotate_left
                      · simp only [Act.put, List.setIfInBounds_toArray, List.set_cons_zero, List.set_cons_succ, i64_w, i32_w, xu32_w, xu8_w]
                        rfl
                      refine pure_ (i := 1) (N := some 51) (v := ?_) (a' := ?_) #[true, true, false, false, false, false, false, false, false, false, false, false, false, false, false, false, false, false, false, false] rfl rfl (any_of HT_.out (by kernel_rfl)) (fun _ _ _ h => h) (Or.inl ⟨by rfl, ?_⟩) ?_ ?_
                      rotate_left
                      · intro w'
                        go_simp
                        with_reducible rfl
                      rotate_left
                      · simp only [Act.put, List.setIfInBounds_toArray, List.set_cons_zero, List.set_cons_succ, i64_w, i32_w, xu32_w, xu8_w]
                        rfl
                      refine pure_ (i := 2) (N := some 52) (v := ?_) (a' := ?_) #[true, true, true, false, false, false, false, false, false, false, false, false, false, false, false, false, false, false, false, false] rfl rfl (any_of HT_.out (by kernel_rfl)) (fun _ _ _ h => h) (Or.inl ⟨by rfl, ?_⟩) ?_ ?_
                      rotate_left
                      · intro w'
                        go_simp
                        with_reducible rfl
                      rotate_left
                      · simp only [Act.put, List.setIfInBounds_toArray, List.set_cons_zero, List.set_cons_succ, i64_w, i32_w, xu32_w, xu8_w]
                        rfl
                      refine pure_ (i := 3) (N := some 53) (v := ?_) (a' := ?_) #[true, true, true, true, false, false, false, false, false, false, false, false, false, false, false, false, false, false, false, false] rfl rfl (any_of HT_.out (by kernel_rfl)) (fun _ _ _ h => h) (Or.inl ⟨by rfl, ?_⟩) ?_ ?_
                      rotate_left
                      · intro w'
                        go_simp
                        with_reducible rfl
                      rotate_left
                      · simp only [Act.put, List.setIfInBounds_toArray, List.set_cons_zero, List.set_cons_succ, i64_w, i32_w, xu32_w, xu8_w]
                        rfl
                      refine pure_ (i := 4) (N := some 54) (v := undef) (a' := ?_) #[true, true, true, true, true, false, false, false, false, false, false, false, false, false, false, false, false, false, false, false] rfl rfl (any_of HT_.out (by kernel_rfl)) (fun _ _ _ h => h) (Or.inr ⟨by rfl, rfl⟩) ?_ ?_
                      rotate_left
                      · simp only [Act.put, List.setIfInBounds_toArray, List.set_cons_zero, List.set_cons_succ, i64_w, i32_w, xu32_w, xu8_w]
                        rfl
                      refine pure_ (i := 5) (N := some 55) (v := undef) (a' := ?_) #[true, true, true, true, true, true, false, false, false, false, false, false, false, false, false, false, false, false, false, false] rfl rfl (any_of HT_.out (by kernel_rfl)) (fun _ _ _ h => h) (Or.inr ⟨by rfl, rfl⟩) ?_ ?_
                      rotate_left
                      · simp only [Act.put, List.setIfInBounds_toArray, List.set_cons_zero, List.set_cons_succ, i64_w, i32_w, xu32_w, xu8_w]
                        rfl
                      refine pure_ (i := 6) (N := some 56) (v := undef) (a' := ?_) #[true, true, true, true, true, true, true, false, false, false, false, false, false, false, false, false, false, false, false, false] rfl rfl (any_of HT_.out (by kernel_rfl)) (fun _ _ _ h => h) (Or.inr ⟨by rfl, rfl⟩) ?_ ?_
                      rotate_left
                      · simp only [Act.put, List.setIfInBounds_toArray, List.set_cons_zero, List.set_cons_succ, i64_w, i32_w, xu32_w, xu8_w]
                        rfl
                      refine pure_ (i := 7) (N := some 57) (v := undef) (a' := ?_) #[true, true, true, true, true, true, true, true, false, false, false, false, false, false, false, false, false, false, false, false] rfl rfl (any_of HT_.out (by kernel_rfl)) (fun _ _ _ h => h) (Or.inr ⟨by rfl, rfl⟩) ?_ ?_
                      rotate_left
                      · simp only [Act.put, List.setIfInBounds_toArray, List.set_cons_zero, List.set_cons_succ, i64_w, i32_w, xu32_w, xu8_w]
                        rfl
                      refine pure_ (i := 8) (N := some 58) (v := undef) (a' := ?_) #[true, true, true, true, true, true, true, true, true, false, false, false, false, false, false, false, false, false, false, false] rfl rfl (any_of HT_.out (by kernel_rfl)) (fun _ _ _ h => h) (Or.inr ⟨by rfl, rfl⟩) ?_ ?_
                      rotate_left
                      · simp only [Act.put, List.setIfInBounds_toArray, List.set_cons_zero, List.set_cons_succ, i64_w, i32_w, xu32_w, xu8_w]
                        rfl
                      refine pure_ (i := 9) (N := some 59) (v := undef) (a' := ?_) #[true, true, true, true, true, true, true, true, true, true, false, false, false, false, false, false, false, false, false, false] rfl rfl (any_of HT_.out (by kernel_rfl)) (fun _ _ _ h => h) (Or.inr ⟨by rfl, rfl⟩) ?_ ?_
                      rotate_left
                      · simp only [Act.put, List.setIfInBounds_toArray, List.set_cons_zero, List.set_cons_succ, i64_w, i32_w, xu32_w, xu8_w]
                        rfl
                      refine pure_ (i := 10) (N := some 60) (v := undef) (a' := ?_) #[true, true, true, true, true, true, true, true, true, true, true, false, false, false, false, false, false, false, false, false] rfl rfl (any_of HT_.out (by kernel_rfl)) (fun _ _ _ h => h) (Or.inr ⟨by rfl, rfl⟩) ?_ ?_
                      rotate_left
                      · simp only [Act.put, List.setIfInBounds_toArray, List.set_cons_zero, List.set_cons_succ, i64_w, i32_w, xu32_w, xu8_w]
                        rfl
                      refine pure_ (i := 11) (N := some 61) (v := undef) (a' := ?_) #[true, true, true, true, true, true, true, true, true, true, true, true, false, false, false, false, false, false, false, false] rfl rfl (any_of HT_.out (by kernel_rfl)) (fun _ _ _ h => h) (Or.inr ⟨by rfl, rfl⟩) ?_ ?_
                      rotate_left
                      · simp only [Act.put, List.setIfInBounds_toArray, List.set_cons_zero, List.set_cons_succ, i64_w, i32_w, xu32_w, xu8_w]
                        rfl
                      refine pure_ (i := 12) (N := some 62) (v := undef) (a' := ?_) #[true, true, true, true, true, true, true, true, true, true, true, true, true, false, false, false, false, false, false, false] rfl rfl (any_of HT_.out (by kernel_rfl)) (fun _ _ _ h => h) (Or.inr ⟨by rfl, rfl⟩) ?_ ?_
                      rotate_left
                      · simp only [Act.put, List.setIfInBounds_toArray, List.set_cons_zero, List.set_cons_succ, i64_w, i32_w, xu32_w, xu8_w]
                        rfl
                      refine pure_ (i := 13) (N := some 63) (v := undef) (a' := ?_) #[true, true, true, true, true, true, true, true, true, true, true, true, true, true, false, false, false, false, false, false] rfl rfl (any_of HT_.out (by kernel_rfl)) (fun _ _ _ h => h) (Or.inr ⟨by rfl, rfl⟩) ?_ ?_
                      rotate_left
                      · simp only [Act.put, List.setIfInBounds_toArray, List.set_cons_zero, List.set_cons_succ, i64_w, i32_w, xu32_w, xu8_w]
                        rfl
                      refine pure_ (i := 14) (N := some 64) (v := undef) (a' := ?_) #[true, true, true, true, true, true, true, true, true, true, true, true, true, true, true, false, false, false, false, false] rfl rfl (any_of HT_.out (by kernel_rfl)) (fun _ _ _ h => h) (Or.inr ⟨by rfl, rfl⟩) ?_ ?_
                      rotate_left
                      · simp only [Act.put, List.setIfInBounds_toArray, List.set_cons_zero, List.set_cons_succ, i64_w, i32_w, xu32_w, xu8_w]
                        rfl
                      refine pure_ (i := 15) (N := some 65) (v := undef) (a' := ?_) #[true, true, true, true, true, true, true, true, true, true, true, true, true, true, true, true, false, false, false, false] rfl rfl (any_of HT_.out (by kernel_rfl)) (fun _ _ _ h => h) (Or.inr ⟨by rfl, rfl⟩) ?_ ?_
                      rotate_left
                      · simp only [Act.put, List.setIfInBounds_toArray, List.set_cons_zero, List.set_cons_succ, i64_w, i32_w, xu32_w, xu8_w]
                        rfl
                      refine pure_ (i := 16) (N := some 66) (v := undef) (a' := ?_) #[true, true, true, true, true, true, true, true, true, true, true, true, true, true, true, true, true, false, false, false] rfl rfl (any_of HT_.out (by kernel_rfl)) (fun _ _ _ h => h) (Or.inr ⟨by rfl, rfl⟩) ?_ ?_
                      rotate_left
                      · simp only [Act.put, List.setIfInBounds_toArray, List.set_cons_zero, List.set_cons_succ, i64_w, i32_w, xu32_w, xu8_w]
                        rfl
                      refine pure_ (i := 17) (N := some 67) (v := undef) (a' := ?_) #[true, true, true, true, true, true, true, true, true, true, true, true, true, true, true, true, true, true, false, false] rfl rfl (any_of HT_.out (by kernel_rfl)) (fun _ _ _ h => h) (Or.inr ⟨by rfl, rfl⟩) ?_ ?_
                      rotate_left
                      · simp only [Act.put, List.setIfInBounds_toArray, List.set_cons_zero, List.set_cons_succ, i64_w, i32_w, xu32_w, xu8_w]
                        rfl
                      refine pure_ (i := 18) (N := some 68) (v := ?_) (a' := ?_) #[true, true, true, true, true, true, true, true, true, true, true, true, true, true, true, true, true, true, true, false] rfl rfl (any_of HT_.out (by kernel_rfl)) (fun _ _ _ h => h) (Or.inl ⟨by rfl, ?_⟩) ?_ ?_
                      rotate_left
                      · intro w'
                        go_simp
                        with_reducible rfl
                      rotate_left
                      · simp only [Act.put, List.setIfInBounds_toArray, List.set_cons_zero, List.set_cons_succ, i64_w, i32_w, xu32_w, xu8_w]
                        rfl
                      refine pure_ (i := 19) (N := some 49) (v := ?_) (a' := ?_) #[true, true, true, true, true, true, true, true, true, true, true, true, true, true, true, true, true, true, true, true] rfl rfl (any_of HT_.out (by kernel_rfl)) (fun _ _ _ h => h) (Or.inl ⟨by rfl, ?_⟩) ?_ ?_
                      rotate_left
                      · intro w'
                        go_simp
                        with_reducible rfl
                      rotate_left
                      · simp only [Act.put, List.setIfInBounds_toArray, List.set_cons_zero, List.set_cons_succ, i64_w, i32_w, xu32_w, xu8_w]
                        rfl
                      refine done_ (done_of HT_.out (by kernel_rfl)) ?_
                      try go_wp2
                      go_meet
                      case rel => exact ⟨_, (true), (by first | rfl | (simp; done) | (simp [*]; done)), H', ⟨by have := HJ2.out; have := HK2.out; have := HJ15.out; first | omega | exact Nat.le_refl _⟩, ⟨by (with_reducible repeat (first | apply Kd.V_alloc | apply Kd.V_drewN | apply Kd.V_drew)); exact HO_0.out⟩, ⟨by (with_reducible repeat (first | apply Kd.V_alloc | apply Kd.V_drewN | apply Kd.V_drew)); exact HO_1.out⟩, ⟨by (with_reducible repeat (first | apply Kd.R_alloc | apply Kd.R_drewN | apply Kd.R_drew)); exact HO_6.out⟩, ⟨by repeat (first | (with_reducible first | exact HB.out | apply below_alloc | apply pw_below_drewN | apply below_drew1) | exact HB.out)⟩⟩
                    · rw [if_neg c23] at H
                      have c23b0 : ((x1_2.length : Int) == 0) = false := beq_eq_false_iff_ne.mpr c23
                      have c23b1 : ((x1_2.length : Int) != 0) = true := bne_iff_ne.mpr c23
                      have c23b2 : ¬ (x1_2 = []) := fun h_ => c23 (by rw [h_]; rfl)
                      (first | rw [c23b0] | (simp only [i64_w, i32_w, xu32_w, xu8_w]; rw [c23b0]) | skip)
                      by_cases c26 : (x0_2.length : Int) > 0
                      · rw [if_pos c26] at H
                        have c26b0 : decide (0 < (x0_2.length : Int)) = true := decide_eq_true c26
                        have c26b1 : decide (0 < x0_2.length) = true := decide_eq_true (by omega)
                        clear c26
                        by_cases c27 : 0 < (x0_2.length : Int)
                        rotate_left
                        · rw [if_neg c27] at H
                          exact absurd H (by simp)
                        rw [if_pos c27] at H
                        have c27b0 : decide (0 < (x0_2.length : Int)) = true := decide_eq_true c27
                        have c27b1 : decide (0 < x0_2.length) = true := decide_eq_true (by omega)
                        clear c27
                        by_cases c28 : 0 < (x1_2.length : Int)
                        rotate_left
                        · rw [if_neg c28] at H
                          exact absurd H (by simp)
                        rw [if_pos c28] at H
                        have c28b0 : decide (0 < (x1_2.length : Int)) = true := decide_eq_true c28
                        have c28b1 : decide (0 < x1_2.length) = true := decide_eq_true (by omega)
                        clear c28
                        have H' := Aside0.mk H
                        clear H
                        try go_wp2
                        have n0_ := Aside0.mk (Kd.V_drew HO_0.out)
                        have n1_ := Aside0.mk (Kd.V_drew HO_1.out)
                        have n2_ := Aside0.mk (Kd.R_drew HO_6.out)
                        have n3_ := Aside0.mk (below_drew1 HB.out)
                        clear HO_0
                        clear HO_1
                        clear HO_6
                        clear HB
                        have HO_0 := n0_
                        have HO_1 := n1_
                        have HO_6 := n2_
                        have HB := n3_
                        clear n0_ n1_ n2_ n3_
                        obtain ⟨Ao30, co30, eo30⟩ := Kd.V_slice HO_1.out
                        (first | subst eo30 | (injection eo30 with f1_ f2_ f3_; have f4_ := f1_.symm; have f5_ := f3_.symm; clear f1_ f2_ f3_; subst f4_; subst f5_))
                        obtain ⟨Ao31, co31, eo31⟩ := Kd.V_slice HO_0.out
                        (first | subst eo31 | (injection eo31 with f1_ f2_ f3_; have f4_ := f1_.symm; have f5_ := f3_.symm; clear f1_ f2_ f3_; subst f4_; subst f5_))
                        have p178 : 0 ≤ (0 : Int) := (by omega)
                        have q178 : 0 < (x0_2.length : Int) := of_decide_eq_true (by first | (with_reducible assumption) | assumption)
                        obtain ⟨ad178, e178, hx178_0, hx178_1, hx178_2⟩ := at_T25 (Kd.V_reads' HO_0.out).2.2 0 p178 q178
                        cases e178
                        have qi178 : (0 < x0_2.length) = True := eq_true (by omega)
                        (try rw [show ((0 : Int)).toNat = 0 from rfl] at hx178_0)
                        (try rw [show 0 * 3 = 0 from rfl] at hx178_0)
                        (try rw [Addr.add_zero'] at hx178_0)
                        (try rw [show ((0 : Int)).toNat = 0 from rfl] at hx178_1)
                        (try rw [show 0 * 3 = 0 from rfl] at hx178_1)
                        (try rw [Addr.add_zero'] at hx178_1)
                        (try rw [show ((0 : Int)).toNat = 0 from rfl] at hx178_2)
                        (try rw [show 0 * 3 = 0 from rfl] at hx178_2)
                        (try rw [Addr.add_zero'] at hx178_2)
                        replace p178 := eq_true p178
                        replace q178 := eq_true q178
                        have p179 : 0 ≤ (0 : Int) := (by omega)
                        have q179 : 0 < (x1_2.length : Int) := of_decide_eq_true (by first | (with_reducible assumption) | assumption)
                        obtain ⟨ad179, e179, hx179_0, hx179_1, hx179_2⟩ := at_T25 (Kd.V_reads' HO_1.out).2.2 0 p179 q179
                        cases e179
                        have qi179 : (0 < x1_2.length) = True := eq_true (by omega)
                        (try rw [show ((0 : Int)).toNat = 0 from rfl] at hx179_0)
                        (try rw [show 0 * 3 = 0 from rfl] at hx179_0)
                        (try rw [Addr.add_zero'] at hx179_0)
                        (try rw [show ((0 : Int)).toNat = 0 from rfl] at hx179_1)
                        (try rw [show 0 * 3 = 0 from rfl] at hx179_1)
                        (try rw [Addr.add_zero'] at hx179_1)
                        (try rw [show ((0 : Int)).toNat = 0 from rfl] at hx179_2)
                        (try rw [show 0 * 3 = 0 from rfl] at hx179_2)
                        (try rw [Addr.add_zero'] at hx179_2)
                        replace p179 := eq_true p179
                        replace q179 := eq_true q179
                        refine start_ (n := 20) (S := fun w' => w'.cell? ad178 = some (.int .i64 ((rd_T25 x0_2 0).f0)) ∧ w'.cell? ⟨ad178.block, ad178.off + 1, none⟩ = some (.int .u64 ((rd_T25 x0_2 0).f1)) ∧ w'.cell? ⟨ad178.block, ad178.off + 2, none⟩ = some (.int .u64 ((rd_T25 x0_2 0).f2)) ∧ w'.cell? ad179 = some (.int .i64 ((rd_T25 x1_2 0).f0)) ∧ w'.cell? ⟨ad179.block, ad179.off + 1, none⟩ = some (.int .u64 ((rd_T25 x1_2 0).f1)) ∧ w'.cell? ⟨ad179.block, ad179.off + 2, none⟩ = some (.int .u64 ((rd_T25 x1_2 0).f2))) (ds := []) #[false, false, false, false, false, false, false, false, false, false, false, false, false, false, false, false, false, false, false, false] (by kernel_rfl) rfl rfl ⟨hx178_0, hx178_1, hx178_2, hx179_0, hx179_1, hx179_2⟩ (fun hHeld => ?_); refine with_tabW points_Merge.tab10 points_Merge.bits10 (fun HT_ HW_ => ?_)
                        generalize wc.drew = w29 at HO_0 HO_1 HO_6 HB hx178_0 hx178_1 hx178_2 hx179_0 hx179_1 hx179_2 hHeld ⊢
                        refine pure_ (i := 0) (N := some 50) (v := ?_) (a' := ?_) #[true, false, false, false, false, false, false, false, false, false, false, false, false, false, false, false, false, false, false, false] rfl rfl (any_of HT_.out (by kernel_rfl)) (fun _ _ _ h => h) (Or.inl ⟨by rfl, ?_⟩) ?_ ?_
                        rotate_left
                        · intro w'
                          go_simp
                          with_reducible rfl
                        rotate_left
                        · simp only [Act.put, List.setIfInBounds_toArray, List.set_cons_zero, List.set_cons_succ, i64_w, i32_w, xu32_w, xu8_w]
                          rfl
                        refine pure_ (i := 1) (N := some 51) (v := ?_) (a' := ?_) #[true, true, false, false, false, false, false, false, false, false, false, false, false, false, false, false, false, false, false, false] rfl rfl (any_of HT_.out (by kernel_rfl)) (fun _ _ _ h => h) (Or.inl ⟨by rfl, ?_⟩) ?_ ?_
                        rotate_left
                        · intro w'
                          go_simp
                          with_reducible rfl
                        rotate_left
                        · simp only [Act.put, List.setIfInBounds_toArray, List.set_cons_zero, List.set_cons_succ, i64_w, i32_w, xu32_w, xu8_w]
                          rfl
                        refine pure_ (i := 2) (N := some 52) (v := ?_) (a' := ?_) #[true, true, true, false, false, false, false, false, false, false, false, false, false, false, false, false, false, false, false, false] rfl rfl (any_of HT_.out (by kernel_rfl)) (fun _ _ _ h => h) (Or.inl ⟨by rfl, ?_⟩) ?_ ?_
                        rotate_left
                        · intro w'
                          go_simp
                          with_reducible rfl
                        rotate_left
                        · simp only [Act.put, List.setIfInBounds_toArray, List.set_cons_zero, List.set_cons_succ, i64_w, i32_w, xu32_w, xu8_w]
                          rfl
                        refine pure_ (i := 3) (N := some 53) (v := ?_) (a' := ?_) #[true, true, true, true, false, false, false, false, false, false, false, false, false, false, false, false, false, false, false, false] rfl rfl (any_of HT_.out (by kernel_rfl)) (fun _ _ _ h => h) (Or.inl ⟨by rfl, ?_⟩) ?_ ?_
                        rotate_left
                        · intro w'
                          go_simp
                          with_reducible rfl
                        rotate_left
                        · simp only [Act.put, List.setIfInBounds_toArray, List.set_cons_zero, List.set_cons_succ, i64_w, i32_w, xu32_w, xu8_w]
                          rfl
                        refine pure_ (i := 4) (N := some 54) (v := ?_) (a' := ?_) #[true, true, true, true, true, false, false, false, false, false, false, false, false, false, false, false, false, false, false, false] rfl rfl (any_of HT_.out (by kernel_rfl)) (fun _ _ _ h => h) (Or.inl ⟨by rfl, ?_⟩) ?_ ?_
                        rotate_left
                        · intro w'
                          go_simp
                          with_reducible rfl
                        rotate_left
                        · simp only [Act.put, List.setIfInBounds_toArray, List.set_cons_zero, List.set_cons_succ, i64_w, i32_w, xu32_w, xu8_w]
                          rfl
                        refine pure_ (i := 5) (N := some 55) (v := ?_) (a' := ?_) #[true, true, true, true, true, true, false, false, false, false, false, false, false, false, false, false, false, false, false, false] rfl rfl (any_of HT_.out (by kernel_rfl)) (fun _ _ _ h => h) (Or.inl ⟨by rfl, ?_⟩) ?_ ?_
                        rotate_left
                        · intro w'
                          go_simp
                          with_reducible rfl
                        rotate_left
                        · simp only [Act.put, List.setIfInBounds_toArray, List.set_cons_zero, List.set_cons_succ, i64_w, i32_w, xu32_w, xu8_w]
                          rfl
                        refine pure_ (i := 6) (N := some 56) (v := ?_) (a' := ?_) #[true, true, true, true, true, true, true, false, false, false, false, false, false, false, false, false, false, false, false, false] rfl rfl (any_of HT_.out (by kernel_rfl)) (fun _ _ _ h => h) (Or.inl ⟨by rfl, ?_⟩) ?_ ?_
                        rotate_left
                        · intro w'
                          go_simp
                          with_reducible rfl
                        rotate_left
                        · simp only [Act.put, List.setIfInBounds_toArray, List.set_cons_zero, List.set_cons_succ, i64_w, i32_w, xu32_w, xu8_w]
                          rfl
                        refine pure_ (i := 7) (N := some 57) (v := ?_) (a' := ?_) #[true, true, true, true, true, true, true, true, false, false, false, false, false, false, false, false, false, false, false, false] rfl rfl (any_of HT_.out (by kernel_rfl)) (fun _ _ _ h => h) (Or.inl ⟨by rfl, ?_⟩) ?_ ?_
                        rotate_left
                        · intro w'
                          go_simp
                          with_reducible rfl
                        rotate_left
                        · simp only [Act.put, List.setIfInBounds_toArray, List.set_cons_zero, List.set_cons_succ, i64_w, i32_w, xu32_w, xu8_w]
                          rfl
                        refine pure_ (i := 8) (N := some 58) (v := ?_) (a' := ?_) #[true, true, true, true, true, true, true, true, true, false, false, false, false, false, false, false, false, false, false, false] rfl rfl (any_of HT_.out (by kernel_rfl)) (fun _ _ _ h => h) (Or.inl ⟨by rfl, ?_⟩) ?_ ?_
                        rotate_left
                        · intro w'
                          go_simp
                          with_reducible rfl
                        rotate_left
                        · simp only [Act.put, List.setIfInBounds_toArray, List.set_cons_zero, List.set_cons_succ, i64_w, i32_w, xu32_w, xu8_w]
                          rfl
                        refine pure_ (i := 9) (N := some 59) (v := ?_) (a' := ?_) #[true, true, true, true, true, true, true, true, true, true, false, false, false, false, false, false, false, false, false, false] rfl rfl (any_of HT_.out (by kernel_rfl)) (fun _ _ _ h => h) (Or.inl ⟨by rfl, ?_⟩) ?_ ?_
                        rotate_left
                        · intro w'
                          go_simp
                          with_reducible rfl
                        rotate_left
                        · simp only [Act.put, List.setIfInBounds_toArray, List.set_cons_zero, List.set_cons_succ, i64_w, i32_w, xu32_w, xu8_w]
                          rfl
                        refine pure_ (i := 10) (N := some 60) (v := ?_) (a' := ?_) #[true, true, true, true, true, true, true, true, true, true, true, false, false, false, false, false, false, false, false, false] rfl rfl (any_of HT_.out (by kernel_rfl)) (fun _ _ _ h => h) (Or.inl ⟨by rfl, ?_⟩) ?_ ?_
                        rotate_left
                        · intro w'
                          go_simp
                          with_reducible rfl
                        rotate_left
                        · simp only [Act.put, List.setIfInBounds_toArray, List.set_cons_zero, List.set_cons_succ, i64_w, i32_w, xu32_w, xu8_w]
                          rfl
                        refine pure_ (i := 12) (N := some 62) (v := ?_) (a' := ?_) #[true, true, true, true, true, true, true, true, true, true, true, false, true, false, false, false, false, false, false, false] rfl rfl (any_of HT_.out (by kernel_rfl)) (fun _ _ _ h => h) (Or.inl ⟨by rfl, ?_⟩) ?_ ?_
                        rotate_left
                        · intro w'
                          go_simp
                          with_reducible rfl
                        rotate_left
                        · simp only [Act.put, List.setIfInBounds_toArray, List.set_cons_zero, List.set_cons_succ, i64_w, i32_w, xu32_w, xu8_w]
                          rfl
                        refine pure_ (i := 13) (N := some 63) (v := ?_) (a' := ?_) #[true, true, true, true, true, true, true, true, true, true, true, false, true, true, false, false, false, false, false, false] rfl rfl (any_of HT_.out (by kernel_rfl)) (fun _ _ _ h => h) (Or.inl ⟨by rfl, ?_⟩) ?_ ?_
                        rotate_left
                        · intro w'
                          go_simp
                          with_reducible rfl
                        rotate_left
                        · simp only [Act.put, List.setIfInBounds_toArray, List.set_cons_zero, List.set_cons_succ, i64_w, i32_w, xu32_w, xu8_w]
                          rfl
                        refine pure_ (i := 14) (N := some 64) (v := ?_) (a' := ?_) #[true, true, true, true, true, true, true, true, true, true, true, false, true, true, true, false, false, false, false, false] rfl rfl (any_of HT_.out (by kernel_rfl)) (fun _ _ _ h => h) (Or.inl ⟨by rfl, ?_⟩) ?_ ?_
                        rotate_left
                        · intro w'
                          go_simp
                          with_reducible rfl
                        rotate_left
                        · simp only [Act.put, List.setIfInBounds_toArray, List.set_cons_zero, List.set_cons_succ, i64_w, i32_w, xu32_w, xu8_w]
                          rfl
                        refine take_ (i := 11) (N := some 61) (v := ?_) (a' := ?_) #[true, true, true, true, true, true, true, true, true, true, true, true, true, true, true, false, false, false, false, false] rfl rfl (take_ofW HT_.out HW_.out (by kernel_rfl)) (fun _ _ _ h => h) (Or.inl ⟨by rfl, ?_⟩) hHeld ?_ ?_
                        rotate_left
                        · rintro w' ⟨s0, s1, s2, s3, s4, s5⟩
                          go_simp
                          with_reducible rfl
                        rotate_left
                        · simp only [Act.put, List.setIfInBounds_toArray, List.set_cons_zero, List.set_cons_succ, i64_w, i32_w, xu32_w, xu8_w]
                          rfl
                        refine take_ (i := 15) (N := some 65) (v := ?_) (a' := ?_) #[true, true, true, true, true, true, true, true, true, true, true, true, true, true, true, true, false, false, false, false] rfl rfl (take_ofW HT_.out HW_.out (by kernel_rfl)) (fun _ _ _ h => h) (Or.inl ⟨by rfl, ?_⟩) hHeld ?_ ?_
                        rotate_left
                        · rintro w' ⟨s0, s1, s2, s3, s4, s5⟩
                          go_simp
                          with_reducible rfl
                        rotate_left
                        · simp only [Act.put, List.setIfInBounds_toArray, List.set_cons_zero, List.set_cons_succ, i64_w, i32_w, xu32_w, xu8_w]
                          rfl
                        refine pure_ (i := 16) (N := some 66) (v := ?_) (a' := ?_) #[true, true, true, true, true, true, true, true, true, true, true, true, true, true, true, true, true, false, false, false] rfl rfl (any_of HT_.out (by kernel_rfl)) (fun _ _ _ h => h) (Or.inl ⟨by rfl, ?_⟩) ?_ ?_
                        rotate_left
                        · intro w'
                          go_simp
                          with_reducible rfl
                        rotate_left
                        · simp only [Act.put, List.setIfInBounds_toArray, List.set_cons_zero, List.set_cons_succ, i64_w, i32_w, xu32_w, xu8_w]
                          rfl
                        refine pure_ (i := 17) (N := some 67) (v := ?_) (a' := ?_) #[true, true, true, true, true, true, true, true, true, true, true, true, true, true, true, true, true, true, false, false] rfl rfl (any_of HT_.out (by kernel_rfl)) (fun _ _ _ h => h) (Or.inl ⟨by rfl, ?_⟩) ?_ ?_
                        rotate_left
                        · intro w'
                          go_simp
                          with_reducible rfl
                        rotate_left
                        · simp only [Act.put, List.setIfInBounds_toArray, List.set_cons_zero, List.set_cons_succ, i64_w, i32_w, xu32_w, xu8_w]
                          rfl
                        refine pure_ (i := 18) (N := some 68) (v := ?_) (a' := ?_) #[true, true, true, true, true, true, true, true, true, true, true, true, true, true, true, true, true, true, true, false] rfl rfl (any_of HT_.out (by kernel_rfl)) (fun _ _ _ h => h) (Or.inl ⟨by rfl, ?_⟩) ?_ ?_
                        rotate_left
                        · intro w'
                          go_simp
                          with_reducible rfl
                        rotate_left
                        · simp only [Act.put, List.setIfInBounds_toArray, List.set_cons_zero, List.set_cons_succ, i64_w, i32_w, xu32_w, xu8_w]
                          rfl
                        refine pure_ (i := 19) (N := some 49) (v := ?_) (a' := ?_) #[true, true, true, true, true, true, true, true, true, true, true, true, true, true, true, true, true, true, true, true] rfl rfl (any_of HT_.out (by kernel_rfl)) (fun _ _ _ h => h) (Or.inl ⟨by rfl, ?_⟩) ?_ ?_
                        rotate_left
                        · intro w'
                          go_simp
                          with_reducible rfl
                        rotate_left
                        · simp only [Act.put, List.setIfInBounds_toArray, List.set_cons_zero, List.set_cons_succ, i64_w, i32_w, xu32_w, xu8_w]
                          rfl
                        refine done_ (done_of HT_.out (by kernel_rfl)) ?_
                        try go_wp2
                        go_meet
                        case rel => exact ⟨_, (decide (((rd_T25 x0_2 0).f0) < ((rd_T25 x1_2 0).f0))), (by first | rfl | (simp; done) | (simp [*]; done)), H', ⟨by have := HJ2.out; have := HK2.out; have := HJ15.out; first | omega | exact Nat.le_refl _⟩, ⟨by (with_reducible repeat (first | apply Kd.V_alloc | apply Kd.V_drewN | apply Kd.V_drew)); exact HO_0.out⟩, ⟨by (with_reducible repeat (first | apply Kd.V_alloc | apply Kd.V_drewN | apply Kd.V_drew)); exact HO_1.out⟩, ⟨by (with_reducible repeat (first | apply Kd.R_alloc | apply Kd.R_drewN | apply Kd.R_drew)); exact HO_6.out⟩, ⟨by repeat (first | (with_reducible first | exact HB.out | apply below_alloc | apply pw_below_drewN | apply below_drew1) | exact HB.out)⟩⟩
                      · rw [if_neg c26] at H
                        have c26b0 : decide (0 < (x0_2.length : Int)) = false := decide_eq_false c26
                        have c26b1 : decide (0 < x0_2.length) = false := decide_eq_false (by omega)
                        clear c26
                        have H' := Aside0.mk H
                        clear H
                        try go_wp2
                        have n0_ := Aside0.mk (Kd.V_drew HO_0.out)
                        have n1_ := Aside0.mk (Kd.V_drew HO_1.out)
                        have n2_ := Aside0.mk (Kd.R_drew HO_6.out)
                        have n3_ := Aside0.mk (below_drew1 HB.out)
                        clear HO_0
                        clear HO_1
                        clear HO_6
                        clear HB
                        have HO_0 := n0_
                        have HO_1 := n1_
                        have HO_6 := n2_
                        have HB := n3_
                        clear n0_ n1_ n2_ n3_
                        obtain ⟨Ao33, co33, eo33⟩ := Kd.V_slice HO_1.out
                        (first | subst eo33 | (injection eo33 with f1_ f2_ f3_; have f4_ := f1_.symm; have f5_ := f3_.symm; clear f1_ f2_ f3_; subst f4_; subst f5_))
                        obtain ⟨Ao34, co34, eo34⟩ := Kd.V_slice HO_0.out
                        (first | subst eo34 | (injection eo34 with f1_ f2_ f3_; have f4_ := f1_.symm; have f5_ := f3_.symm; clear f1_ f2_ f3_; subst f4_; subst f5_))
                        refine start_ (n := 20) (S := fun w' => True) (ds := []) #[false, false, false, false, false, false, false, false, false, false, false, false, false, false, false, false, false, false, false, false] (by kernel_rfl) rfl rfl trivial (fun hHeld => ?_); refine with_tabW points_Merge.tab10 points_Merge.bits10 (fun HT_ HW_ => ?_)
                        generalize wc.drew = w32 at HO_0 HO_1 HO_6 HB hHeld ⊢
                        refine pure_ (i := 0) (N := some 50) (v := ?_) (a' := ?_) #[true, false, false, false, false, false, false, false, false, false, false, false, false, false, false, false, false, false, false, false] rfl rfl (any_of HT_.out (by kernel_rfl)) (fun _ _ _ h => h) (Or.inl ⟨by rfl, ?_⟩) ?_ ?_
                        rotate_left
                        · intro w'
                          go_simp
                          with_reducible rfl
                        rotate_left
                        · simp only [Act.put, List.setIfInBounds_toArray, List.set_cons_zero, List.set_cons_succ, i64_w, i32_w, xu32_w, xu8_w]
                          rfl
                        refine pure_ (i := 1) (N := some 51) (v := ?_) (a' := ?_) #[true, true, false, false, false, false, false, false, false, false, false, false, false, false, false, false, false, false, false, false] rfl rfl (any_of HT_.out (by kernel_rfl)) (fun _ _ _ h => h) (Or.inl ⟨by rfl, ?_⟩) ?_ ?_
                        rotate_left
                        · intro w'
                          go_simp
                          with_reducible rfl
                        rotate_left
                        · simp only [Act.put, List.setIfInBounds_toArray, List.set_cons_zero, List.set_cons_succ, i64_w, i32_w, xu32_w, xu8_w]
                          rfl
                        refine pure_ (i := 2) (N := some 52) (v := ?_) (a' := ?_) #[true, true, true, false, false, false, false, false, false, false, false, false, false, false, false, false, false, false, false, false] rfl rfl (any_of HT_.out (by kernel_rfl)) (fun _ _ _ h => h) (Or.inl ⟨by rfl, ?_⟩) ?_ ?_
                        rotate_left
                        · intro w'
                          go_simp
                          with_reducible rfl
                        rotate_left
                        · simp only [Act.put, List.setIfInBounds_toArray, List.set_cons_zero, List.set_cons_succ, i64_w, i32_w, xu32_w, xu8_w]
                          rfl
                        refine pure_ (i := 3) (N := some 53) (v := ?_) (a' := ?_) #[true, true, true, true, false, false, false, false, false, false, false, false, false, false, false, false, false, false, false, false] rfl rfl (any_of HT_.out (by kernel_rfl)) (fun _ _ _ h => h) (Or.inl ⟨by rfl, ?_⟩) ?_ ?_
                        rotate_left
                        · intro w'
                          go_simp
                          with_reducible rfl
                        rotate_left
                        · simp only [Act.put, List.setIfInBounds_toArray, List.set_cons_zero, List.set_cons_succ, i64_w, i32_w, xu32_w, xu8_w]
                          rfl
                        refine pure_ (i := 4) (N := some 54) (v := ?_) (a' := ?_) #[true, true, true, true, true, false, false, false, false, false, false, false, false, false, false, false, false, false, false, false] rfl rfl (any_of HT_.out (by kernel_rfl)) (fun _ _ _ h => h) (Or.inl ⟨by rfl, ?_⟩) ?_ ?_
                        rotate_left
                        · intro w'
                          go_simp
                          with_reducible rfl
                        rotate_left
                        · simp only [Act.put, List.setIfInBounds_toArray, List.set_cons_zero, List.set_cons_succ, i64_w, i32_w, xu32_w, xu8_w]
                          rfl
                        refine pure_ (i := 5) (N := some 55) (v := ?_) (a' := ?_) #[true, true, true, true, true, true, false, false, false, false, false, false, false, false, false, false, false, false, false, false] rfl rfl (any_of HT_.out (by kernel_rfl)) (fun _ _ _ h => h) (Or.inl ⟨by rfl, ?_⟩) ?_ ?_
                        rotate_left
                        · intro w'
                          go_simp
                          with_reducible rfl
                        rotate_left
                        · simp only [Act.put, List.setIfInBounds_toArray, List.set_cons_zero, List.set_cons_succ, i64_w, i32_w, xu32_w, xu8_w]
                          rfl
                        refine pure_ (i := 6) (N := some 56) (v := ?_) (a' := ?_) #[true, true, true, true, true, true, true, false, false, false, false, false, false, false, false, false, false, false, false, false] rfl rfl (any_of HT_.out (by kernel_rfl)) (fun _ _ _ h => h) (Or.inl ⟨by rfl, ?_⟩) ?_ ?_
                        rotate_left
                        · intro w'
                          go_simp
                          with_reducible rfl
                        rotate_left
                        · simp only [Act.put, List.setIfInBounds_toArray, List.set_cons_zero, List.set_cons_succ, i64_w, i32_w, xu32_w, xu8_w]
                          rfl
                        refine pure_ (i := 7) (N := some 57) (v := ?_) (a' := ?_) #[true, true, true, true, true, true, true, true, false, false, false, false, false, false, false, false, false, false, false, false] rfl rfl (any_of HT_.out (by kernel_rfl)) (fun _ _ _ h => h) (Or.inl ⟨by rfl, ?_⟩) ?_ ?_
                        rotate_left
                        · intro w'
                          go_simp
                          with_reducible rfl
                        rotate_left
                        · simp only [Act.put, List.setIfInBounds_toArray, List.set_cons_zero, List.set_cons_succ, i64_w, i32_w, xu32_w, xu8_w]
                          rfl
                        refine pure_ (i := 8) (N := some 58) (v := undef) (a' := ?_) #[true, true, true, true, true, true, true, true, true, false, false, false, false, false, false, false, false, false, false, false] rfl rfl (any_of HT_.out (by kernel_rfl)) (fun _ _ _ h => h) (Or.inr ⟨by rfl, rfl⟩) ?_ ?_
                        rotate_left
                        · simp only [Act.put, List.setIfInBounds_toArray, List.set_cons_zero, List.set_cons_succ, i64_w, i32_w, xu32_w, xu8_w]
                          rfl
                        refine pure_ (i := 9) (N := some 59) (v := undef) (a' := ?_) #[true, true, true, true, true, true, true, true, true, true, false, false, false, false, false, false, false, false, false, false] rfl rfl (any_of HT_.out (by kernel_rfl)) (fun _ _ _ h => h) (Or.inr ⟨by rfl, rfl⟩) ?_ ?_
                        rotate_left
                        · simp only [Act.put, List.setIfInBounds_toArray, List.set_cons_zero, List.set_cons_succ, i64_w, i32_w, xu32_w, xu8_w]
                          rfl
                        refine pure_ (i := 10) (N := some 60) (v := undef) (a' := ?_) #[true, true, true, true, true, true, true, true, true, true, true, false, false, false, false, false, false, false, false, false] rfl rfl (any_of HT_.out (by kernel_rfl)) (fun _ _ _ h => h) (Or.inr ⟨by rfl, rfl⟩) ?_ ?_
                        rotate_left
                        · simp only [Act.put, List.setIfInBounds_toArray, List.set_cons_zero, List.set_cons_succ, i64_w, i32_w, xu32_w, xu8_w]
                          rfl
                        refine pure_ (i := 11) (N := some 61) (v := undef) (a' := ?_) #[true, true, true, true, true, true, true, true, true, true, true, true, false, false, false, false, false, false, false, false] rfl rfl (any_of HT_.out (by kernel_rfl)) (fun _ _ _ h => h) (Or.inr ⟨by rfl, rfl⟩) ?_ ?_
                        rotate_left
                        · simp only [Act.put, List.setIfInBounds_toArray, List.set_cons_zero, List.set_cons_succ, i64_w, i32_w, xu32_w, xu8_w]
                          rfl
                        refine pure_ (i := 12) (N := some 62) (v := undef) (a' := ?_) #[true, true, true, true, true, true, true, true, true, true, true, true, true, false, false, false, false, false, false, false] rfl rfl (any_of HT_.out (by kernel_rfl)) (fun _ _ _ h => h) (Or.inr ⟨by rfl, rfl⟩) ?_ ?_
                        rotate_left
                        · simp only [Act.put, List.setIfInBounds_toArray, List.set_cons_zero, List.set_cons_succ, i64_w, i32_w, xu32_w, xu8_w]
                          rfl
                        refine pure_ (i := 13) (N := some 63) (v := undef) (a' := ?_) #[true, true, true, true, true, true, true, true, true, true, true, true, true, true, false, false, false, false, false, false] rfl rfl (any_of HT_.out (by kernel_rfl)) (fun _ _ _ h => h) (Or.inr ⟨by rfl, rfl⟩) ?_ ?_
                        rotate_left
                        · simp only [Act.put, List.setIfInBounds_toArray, List.set_cons_zero, List.set_cons_succ, i64_w, i32_w, xu32_w, xu8_w]
                          rfl
                        refine pure_ (i := 14) (N := some 64) (v := undef) (a' := ?_) #[true, true, true, true, true, true, true, true, true, true, true, true, true, true, true, false, false, false, false, false] rfl rfl (any_of HT_.out (by kernel_rfl)) (fun _ _ _ h => h) (Or.inr ⟨by rfl, rfl⟩) ?_ ?_
                        rotate_left
                        · simp only [Act.put, List.setIfInBounds_toArray, List.set_cons_zero, List.set_cons_succ, i64_w, i32_w, xu32_w, xu8_w]
                          rfl
                        refine pure_ (i := 15) (N := some 65) (v := undef) (a' := ?_) #[true, true, true, true, true, true, true, true, true, true, true, true, true, true, true, true, false, false, false, false] rfl rfl (any_of HT_.out (by kernel_rfl)) (fun _ _ _ h => h) (Or.inr ⟨by rfl, rfl⟩) ?_ ?_
                        rotate_left
                        · simp only [Act.put, List.setIfInBounds_toArray, List.set_cons_zero, List.set_cons_succ, i64_w, i32_w, xu32_w, xu8_w]
                          rfl
                        refine pure_ (i := 16) (N := some 66) (v := undef) (a' := ?_) #[true, true, true, true, true, true, true, true, true, true, true, true, true, true, true, true, true, false, false, false] rfl rfl (any_of HT_.out (by kernel_rfl)) (fun _ _ _ h => h) (Or.inr ⟨by rfl, rfl⟩) ?_ ?_
                        rotate_left
                        · simp only [Act.put, List.setIfInBounds_toArray, List.set_cons_zero, List.set_cons_succ, i64_w, i32_w, xu32_w, xu8_w]
                          rfl
                        refine pure_ (i := 17) (N := some 67) (v := ?_) (a' := ?_) #[true, true, true, true, true, true, true, true, true, true, true, true, true, true, true, true, true, true, false, false] rfl rfl (any_of HT_.out (by kernel_rfl)) (fun _ _ _ h => h) (Or.inl ⟨by rfl, ?_⟩) ?_ ?_
                        rotate_left
                        · intro w'
                          go_simp
                          with_reducible rfl
                        rotate_left
                        · simp only [Act.put, List.setIfInBounds_toArray, List.set_cons_zero, List.set_cons_succ, i64_w, i32_w, xu32_w, xu8_w]
                          rfl
                        refine pure_ (i := 18) (N := some 68) (v := ?_) (a' := ?_) #[true, true, true, true, true, true, true, true, true, true, true, true, true, true, true, true, true, true, true, false] rfl rfl (any_of HT_.out (by kernel_rfl)) (fun _ _ _ h => h) (Or.inl ⟨by rfl, ?_⟩) ?_ ?_
                        rotate_left
                        · intro w'
                          go_simp
                          with_reducible rfl
                        rotate_left
                        · simp only [Act.put, List.setIfInBounds_toArray, List.set_cons_zero, List.set_cons_succ, i64_w, i32_w, xu32_w, xu8_w]
                          rfl
                        refine pure_ (i := 19) (N := some 49) (v := ?_) (a' := ?_) #[true, true, true, true, true, true, true, true, true, true, true, true, true, true, true, true, true, true, true, true] rfl rfl (any_of HT_.out (by kernel_rfl)) (fun _ _ _ h => h) (Or.inl ⟨by rfl, ?_⟩) ?_ ?_
                        rotate_left
                        · intro w'
                          go_simp
                          with_reducible rfl
                        rotate_left
                        · simp only [Act.put, List.setIfInBounds_toArray, List.set_cons_zero, List.set_cons_succ, i64_w, i32_w, xu32_w, xu8_w]
                          rfl
                        refine done_ (done_of HT_.out (by kernel_rfl)) ?_
                        try go_wp2
                        go_meet
                        case rel => exact ⟨_, (false), (by first | rfl | (simp; done) | (simp [*]; done)), H', ⟨by have := HJ2.out; have := HK2.out; have := HJ15.out; first | omega | exact Nat.le_refl _⟩, ⟨by (with_reducible repeat (first | apply Kd.V_alloc | apply Kd.V_drewN | apply Kd.V_drew)); exact HO_0.out⟩, ⟨by (with_reducible repeat (first | apply Kd.V_alloc | apply Kd.V_drewN | apply Kd.V_drew)); exact HO_1.out⟩, ⟨by (with_reducible repeat (first | apply Kd.R_alloc | apply Kd.R_drewN | apply Kd.R_drew)); exact HO_6.out⟩, ⟨by repeat (first | (with_reducible first | exact HB.out | apply below_alloc | apply pw_below_drewN | apply below_drew1) | exact HB.out)⟩⟩
                  case rest =>
                    clear HC22
                    try clear c1
                    try clear p1
                    try clear q1
                    try clear hx1
                    try clear qi1
                    try clear c2
                    try clear p2
                    try clear c3
                    try clear c5
                    try clear p6
                    try clear c10
                    try clear c12
                    try clear c12b0
                    try clear c12b1
                    try clear c13
                    try clear c13b0
                    try clear c13b1
                    try clear c14
                    try clear c17
                    try clear c17b0
                    try clear c17b1
                    try clear p17
                    try clear q17
                    try clear hx17
                    try clear qi17
                    try clear c21
                    try clear c23
                    try clear c23b0
                    try clear c23b1
                    try clear c23b2
                    try clear c26
                    try clear c26b0
                    try clear c26b1
                    try clear c27
                    try clear c27b0
                    try clear c27b1
                    try clear c28
                    try clear c28b0
                    try clear c28b1
                    try clear hx178_0
                    try clear hx178_1
                    try clear hx178_2
                    try clear hx179_0
                    try clear hx179_1
                    try clear hx179_2
                    try clear p178
                    try clear p179
                    try clear p2
                    try clear p6
                    try clear q178
                    try clear q179
                    obtain ⟨kq, x49_21, rfl, HA, HJ21, HO_0, HO_1, HO_6, HB⟩ := hcut
                    cases kq with
                    | zero => exact absurd HA.out (by simp [points_Merge.j3])
                    | succ kj21 =>
                      have H := HA.out
                      clear HA
                      simp only [points_Merge.j3] at H
                      by_cases c35 : x49_21 = true
                      · subst c35
                        have H1 : (if 0 < (x0_2.length : Int) then (if x6_2.length < 5864062014805 then (if 1 ≤ (x0_2.length : Int) then (points_Merge.l0 kj21 (x0_2.drop 1) x1_2 (x6_2 ++ [(⟨(rd_T25 x0_2 0).f0, (rd_T25 x0_2 0).f1, (rd_T25 x0_2 0).f2⟩ : S25)])) else (none)) else (none)) else (none)) = some (r1, r2) := by rw [if_pos rfl] at H; exact H
                        clear H
                        have H := H1
                        clear H1
                        by_cases c36 : 0 < (x0_2.length : Int)
                        rotate_left
                        · rw [if_neg c36] at H
                          exact absurd H (by simp)
                        rw [if_pos c36] at H
                        have c36b0 : decide (0 < (x0_2.length : Int)) = true := decide_eq_true c36
                        have c36b1 : decide (0 < x0_2.length) = true := decide_eq_true (by omega)
                        clear c36
                        by_cases c37 : x6_2.length < 5864062014805
                        rotate_left
                        · rw [if_neg c37] at H
                          exact absurd H (by simp)
                        rw [if_pos c37] at H
                        have LMc37 := Aside0.mk c37
                        clear c37
                        obtain ⟨y181, hy181⟩ : ∃ y_ : List (S25), y_ = (x6_2 ++ [(⟨(rd_T25 x0_2 0).f0, (rd_T25 x0_2 0).f1, (rd_T25 x0_2 0).f2⟩ : S25)]) := ⟨_, rfl⟩
                        replace H : (if 1 ≤ (x0_2.length : Int) then (points_Merge.l0 kj21 (x0_2.drop 1) x1_2 y181) else (none)) = some (r1, r2) := by first | (rw [hy181]; with_reducible exact H) | (have H2_ := (Option.bind_some _ _).symm.trans H; rw [hy181]; with_reducible exact H2_) | (have H2_ := (Option.bind_some _ _).symm.trans H; with_reducible exact H2_) | with_reducible exact H | (rw [hy181]; exact H) | exact H
                        have Ny181 := Aside0.mk hy181
                        clear hy181
                        by_cases c38 : 1 ≤ (x0_2.length : Int)
                        rotate_left
                        · rw [if_neg c38] at H
                          exact absurd H (by simp)
                        rw [if_pos c38] at H
                        have c38b0 := eq_true c38
                        have c38b1 : decide (1 ≤ (x0_2.length : Int)) = true := decide_eq_true c38
                        clear c38
                        obtain ⟨y184, hy184⟩ : ∃ y_ : List (S25), y_ = (x0_2.drop 1) := ⟨_, rfl⟩
                        replace H : (points_Merge.l0 kj21 y184 x1_2 y181) = some (r1, r2) := by first | (rw [hy184]; with_reducible exact H) | (have H2_ := (Option.bind_some _ _).symm.trans H; rw [hy184]; with_reducible exact H2_) | (have H2_ := (Option.bind_some _ _).symm.trans H; with_reducible exact H2_) | with_reducible exact H | (rw [hy184]; exact H) | exact H
                        have Ny184 := Aside0.mk hy184
                        clear hy184
                        have H' := Aside0.mk H
                        clear H
                        obtain ⟨Ao39, co39, eo39⟩ := Kd.V_slice HO_0.out
                        subst eo39
                        have p180 : 0 ≤ (0 : Int) := (by omega)
                        have q180 : 0 < (x0_2.length : Int) := of_decide_eq_true (by first | (with_reducible assumption) | assumption)
                        obtain ⟨ad180, e180, hx180_0, hx180_1, hx180_2⟩ := at_T25 (Kd.V_reads' HO_0.out).2.2 0 p180 q180
                        cases e180
                        have qi180 : (0 < x0_2.length) = True := eq_true (by omega)
                        (try rw [show ((0 : Int)).toNat = 0 from rfl] at hx180_0)
                        (try rw [show 0 * 3 = 0 from rfl] at hx180_0)
                        (try rw [Addr.add_zero'] at hx180_0)
                        (try rw [show ((0 : Int)).toNat = 0 from rfl] at hx180_1)
                        (try rw [show 0 * 3 = 0 from rfl] at hx180_1)
                        (try rw [Addr.add_zero'] at hx180_1)
                        (try rw [show ((0 : Int)).toNat = 0 from rfl] at hx180_2)
                        (try rw [show 0 * 3 = 0 from rfl] at hx180_2)
                        (try rw [Addr.add_zero'] at hx180_2)
                        replace p180 := eq_true p180
                        replace q180 := eq_true q180
                        go_wp2_with (first | ((with_reducible refine gate_builtin (b := .append) (xs := #[.tmp 69, .tmp 73]) rfl ?_); (try (refine gate_guard (by rfl) ?_; dsimp only)); at_builtin; refine Kd.R_append k25 (w0 := w) w.heap.size rfl (.tmp 69) (.tmp 73) 22 25 (.agg #[(.int .i64 0), (.int .u64 0), (.int .u64 0)]) 24 rfl Try.underlying22 info25 rfl (by decide) (by omega) u6 x6_2 (⟨(rd_T25 x0_2 0).f0, (rd_T25 x0_2 0).f1, (rd_T25 x0_2 0).f2⟩ : S25) [.int .i64 ((rd_T25 x0_2 0).f0), .int .u64 ((rd_T25 x0_2 0).f1), .int .u64 ((rd_T25 x0_2 0).f2)] (fun k_ => (w.heap.size ≤ k_)) (fun _ => False) rfl rfl ?aP (fun _ hk => hk.elim) ?aF ?aO ?aB ?aS ?aL ?_; (case aP => exact k25_mkM _ _ _ (⟨(rd_T25 x0_2 0).f0, (rd_T25 x0_2 0).f1, (rd_T25 x0_2 0).f2⟩ : S25)); (case aB => exact (by repeat (first | (with_reducible first | exact HB.out | apply below_alloc | apply pw_below_drewN | apply below_drew1) | exact HB.out))); (case aF => exact (fun k_ hk => (Nat.le_trans (below_size (by repeat (first | (with_reducible first | exact HB.out | apply below_alloc | apply pw_below_drewN | apply below_drew1) | exact HB.out))) hk))); (case aO => exact (by (with_reducible repeat (first | apply Kd.R_alloc | apply Kd.R_drewN | apply Kd.R_drew)); exact HO_6.out)); (case aS => exact (below_size (by repeat (first | (with_reducible first | exact HB.out | apply below_alloc | apply pw_below_drewN | apply below_drew1) | exact HB.out)))); (case aL => have := LMc37.out; omega); intro v182 w40 ho hb hg hat; rw [← Ny181.out] at ho; have n0_ := Aside0.mk (Kd.V_afterv (ok := (fun k_ => ((P0_ k_ ∨ P1_ k_) ∨ w.heap.size ≤ k_))) (by (with_reducible repeat (first | apply Kd.V_alloc | apply Kd.V_drewN | apply Kd.V_drew)); exact HO_0.out) hg hat); have n1_ := Aside0.mk (Kd.V_afterv (ok := (fun k_ => ((P0_ k_ ∨ P1_ k_) ∨ w.heap.size ≤ k_))) (by (with_reducible repeat (first | apply Kd.V_alloc | apply Kd.V_drewN | apply Kd.V_drew)); exact HO_1.out) hg hat); have n2_ := Aside0.mk (hb); have n3_ := Aside0.mk (ho); clear HO_0; clear HO_1; clear HB; clear HO_6; have HO_0 := n0_; have HO_1 := n1_; have HB := n2_; have HO183 := n3_; clear n0_ n1_ n2_ n3_; clear ho hb hg hat; have q41 : (1 : Int) ≤ ((x0_2.length : Int) : Int) := of_decide_eq_true (by first | (with_reducible assumption) | assumption); obtain ⟨i041, hi041, _, hsz41, _⟩ := info_parts info25; have hroom41 : x0_2.length ≤ co39 := (Kd.V_reads' HO_0.out).2.1; have hC41 : Kd.F k25 _ _ (some ad180) x0_2.length x0_2 := (Kd.V_at (base := w.heap.size) HO_0.out).2.2; have hcut41 := cut_from (P := Try.prog) 22 25 .i64 Try.underlying22 hi041 3 hsz41 (some ad180) x0_2.length co39 1 (by omega) q41; have hr41 := Kd.F_cut (m := (1 : Int).toNat) (c := co39) hC41 (by omega) hroom41; obtain ⟨A41, hA41⟩ : ∃ A1, A1 = (if co39 = (1 : Int).toNat then (some ad180) else ((some ad180) : Option Addr).map (·.add ((1 : Int).toNat * 3))) := ⟨_, rfl⟩; obtain ⟨c41, hc41⟩ : ∃ c1, c1 = co39 - (1 : Int).toNat := ⟨_, rfl⟩; have hy41 : y184.length = x0_2.length - (1 : Int).toNat := (by rw [Ny184.out, List.length_drop] <;> omega); rw [show (x0_2).drop (1 : Int).toNat = y184 from Ny184.out.symm] at hr41; replace hr41 : Kd.F k25 _ _ A41 y184.length y184 := (by rw [hA41]; exact hr41); rw [← hy41, ← hA41, ← hc41] at hcut41; have HO188 := Aside0.mk (show Kd.V k25 25 _ w.heap.size _ (.slice A41 y184.length c41) y184 from Kd.V_mk (by rw [hy41, hc41]; exact Nat.sub_le_sub_right hroom41 _) hr41); have HC188 := Aside0.mk (show y184.length ≤ c41 from by rw [hy41, hc41]; exact Nat.sub_le_sub_right hroom41 _); clear hr41 hC41 hroom41 hi041 hsz41 hc41; have KY41 := Aside0.mk hy41; have KA41 := Aside0.mk hA41; clear hy41 hA41; replace q41 := eq_true q41))
                        go_roundg kj21
                        case measure => have := HJ2.out; have := HK2.out; have := HJ15.out; have := HJ21.out; omega
                        case rel => exact ⟨(y184), (x1_2), (y181), H', ⟨by have := HJ2.out; have := HK2.out; have := HJ15.out; have := HJ21.out; omega⟩, ⟨by (with_reducible repeat (first | apply Kd.V_alloc | apply Kd.V_drewN | apply Kd.V_drew)); exact HO188.out⟩, ⟨by (with_reducible repeat (first | apply Kd.V_alloc | apply Kd.V_drewN | apply Kd.V_drew)); exact HO_1.out⟩, ⟨by (with_reducible repeat (first | apply Kd.R_alloc | apply Kd.R_drewN | apply Kd.R_drew)); exact HO183.out⟩, ⟨by repeat (first | (with_reducible first | exact HB.out | apply below_alloc | apply pw_below_drewN | apply below_drew1) | exact HB.out)⟩⟩
                      · replace c35 := Bool.eq_false_iff.mpr c35
                        subst c35
                        have H1 : (if (x0_2.length : Int) = 0 then (points_Merge.j4 kj21 x0_2 x1_2 x6_2 true) else (if 0 < (x1_2.length : Int) then (if 0 < (x0_2.length : Int) then (points_Merge.j4 kj21 x0_2 x1_2 x6_2 (decide (((rd_T25 x1_2 0).f0) < ((rd_T25 x0_2 0).f0)))) else (none)) else (none))) = some (r1, r2) := by rw [if_neg (show ¬ (false = true) by decide)] at H; exact H
                        clear H
                        have H := H1
                        clear H1
                        have HC42 := Aside0.mk H
                        clear H
                        go_upto_region 13 with (fail)
                        go_cut [77] (fun v77 wc => ∃ (kq : Nat) (x77_41 : Bool), v77 = .bool x77_41 ∧ Aside0 (points_Merge.j4 kq x0_2 x1_2 x6_2 x77_41 = some (r1, r2)) ∧ Aside0 (kq ≤ kj21) ∧ Aside0 (Kd.V k25 25 wc w.heap.size (fun k_ => ((P0_ k_ ∨ P1_ k_) ∨ w.heap.size ≤ k_) ∧ some k_ ≠ (u6 : Value).ownBlock) u0 x0_2) ∧ Aside0 (Kd.V k25 25 wc w.heap.size (fun k_ => ((P0_ k_ ∨ P1_ k_) ∨ w.heap.size ≤ k_) ∧ some k_ ≠ (u6 : Value).ownBlock) u1 x1_2) ∧ Aside0 (Kd.R k25 25 wc w.heap.size (fun k_ => (w.heap.size ≤ k_)) u6 x6_2) ∧ Aside0 (Below w.heap.size w wc))
                        case first =>
                          have H := HC42.out
                          clear HC42
                          by_cases c43 : (x0_2.length : Int) = 0
                          · rw [if_pos c43] at H
                            have c43b0 : ((x0_2.length : Int) == 0) = true := beq_iff_eq.mpr c43
                            have c43b1 : ((x0_2.length : Int) != 0) = false := bne_eq_false_iff_eq.mpr c43
                            clear c43
                            (first | rw [c43b0] | (simp only [i64_w, i32_w, xu32_w, xu8_w]; rw [c43b0]) | skip)
                            have H' := Aside0.mk H
                            clear H
                            try go_wp2
                            have n0_ := Aside0.mk (Kd.V_drew HO_0.out)
                            have n1_ := Aside0.mk (Kd.V_drew HO_1.out)
                            have n2_ := Aside0.mk (Kd.R_drew HO_6.out)
                            have n3_ := Aside0.mk (below_drew1 HB.out)
                            clear HO_0
                            clear HO_1
                            clear HO_6
                            clear HB
                            have HO_0 := n0_
                            have HO_1 := n1_
                            have HO_6 := n2_
                            have HB := n3_
                            clear n0_ n1_ n2_ n3_
                            obtain ⟨Ao45, co45, eo45⟩ := Kd.V_slice HO_0.out
                            (first | subst eo45 | (injection eo45 with f1_ f2_ f3_; have f4_ := f1_.symm; have f5_ := f3_.symm; clear f1_ f2_ f3_; subst f4_; subst f5_))
                            refine start_ (n := 15) (S := fun w' => True) (ds := []) #[false, false, false, false, false, false, false, false, false, false, false, false, false, false, false] (by kernel_rfl) rfl rfl trivial (fun hHeld => ?_); refine with_tabW points_Merge.tab13 points_Merge.bits13 (fun HT_ HW_ => ?_)
                            generalize wc.drew = w44 at HO_0 HO_1 HO_6 HB hHeld ⊢
                            refine pure_ (i := 0) (N := some 78) (v := ?_) (a' := ?_) #[true, false, false, false, false, false, false, false, false, false, false, false, false, false, false] rfl rfl (any_of HT_.out (by kernel_rfl)) (fun _ _ _ h => h) (Or.inl ⟨by rfl, ?_⟩) ?_ ?_
                            rotate_left
                            · intro w'
                              go_simp
                              with_reducible rfl
                            rotate_left
                            · simp only [Act.put, List.setIfInBounds_toArray, List.set_cons_zero, List.set_cons_succ, i64_w, i32_w, xu32_w, xu8_w]
                              rfl
                            refine pure_ (i := 1) (N := some 79) (v := ?_) (a' := ?_) #[true, true, false, false, false, false, false, false, false, false, false, false, false, false, false] rfl rfl (any_of HT_.out (by kernel_rfl)) (fun _ _ _ h => h) (Or.inl ⟨by rfl, ?_⟩) ?_ ?_
                            rotate_left
                            · intro w'
                              go_simp
                              with_reducible rfl
                            rotate_left
                            · simp only [Act.put, List.setIfInBounds_toArray, List.set_cons_zero, List.set_cons_succ, i64_w, i32_w, xu32_w, xu8_w]
                              rfl
                            refine pure_ (i := 2) (N := some 80) (v := ?_) (a' := ?_) #[true, true, true, false, false, false, false, false, false, false, false, false, false, false, false] rfl rfl (any_of HT_.out (by kernel_rfl)) (fun _ _ _ h => h) (Or.inl ⟨by rfl, ?_⟩) ?_ ?_
                            rotate_left
                            · intro w'
                              go_simp
                              with_reducible rfl
                            rotate_left
                            · simp only [Act.put, List.setIfInBounds_toArray, List.set_cons_zero, List.set_cons_succ, i64_w, i32_w, xu32_w, xu8_w]
                              rfl
                            refine pure_ (i := 3) (N := some 81) (v := ?_) (a' := ?_) #[true, true, true, true, false, false, false, false, false, false, false, false, false, false, false] rfl rfl (any_of HT_.out (by kernel_rfl)) (fun _ _ _ h => h) (Or.inl ⟨by rfl, ?_⟩) ?_ ?_
                            rotate_left
                            · intro w'
                              go_simp
                              with_reducible rfl
                            rotate_left
                            · simp only [Act.put, List.setIfInBounds_toArray, List.set_cons_zero, List.set_cons_succ, i64_w, i32_w, xu32_w, xu8_w]
                              rfl
                            refine pure_ (i := 4) (N := some 82) (v := undef) (a' := ?_) #[true, true, true, true, true, false, false, false, false, false, false, false, false, false, false] rfl rfl (any_of HT_.out (by kernel_rfl)) (fun _ _ _ h => h) (Or.inr ⟨by rfl, rfl⟩) ?_ ?_
                            rotate_left
                            · simp only [Act.put, List.setIfInBounds_toArray, List.set_cons_zero, List.set_cons_succ, i64_w, i32_w, xu32_w, xu8_w]
                              rfl
                            refine pure_ (i := 5) (N := some 83) (v := undef) (a' := ?_) #[true, true, true, true, true, true, false, false, false, false, false, false, false, false, false] rfl rfl (any_of HT_.out (by kernel_rfl)) (fun _ _ _ h => h) (Or.inr ⟨by rfl, rfl⟩) ?_ ?_
                            rotate_left
                            · simp only [Act.put, List.setIfInBounds_toArray, List.set_cons_zero, List.set_cons_succ, i64_w, i32_w, xu32_w, xu8_w]
                              rfl
                            refine pure_ (i := 6) (N := some 84) (v := undef) (a' := ?_) #[true, true, true, true, true, true, true, false, false, false, false, false, false, false, false] rfl rfl (any_of HT_.out (by kernel_rfl)) (fun _ _ _ h => h) (Or.inr ⟨by rfl, rfl⟩) ?_ ?_
                            rotate_left
                            · simp only [Act.put, List.setIfInBounds_toArray, List.set_cons_zero, List.set_cons_succ, i64_w, i32_w, xu32_w, xu8_w]
                              rfl
                            refine pure_ (i := 7) (N := some 85) (v := undef) (a' := ?_) #[true, true, true, true, true, true, true, true, false, false, false, false, false, false, false] rfl rfl (any_of HT_.out (by kernel_rfl)) (fun _ _ _ h => h) (Or.inr ⟨by rfl, rfl⟩) ?_ ?_
                            rotate_left
                            · simp only [Act.put, List.setIfInBounds_toArray, List.set_cons_zero, List.set_cons_succ, i64_w, i32_w, xu32_w, xu8_w]
                              rfl
                            refine pure_ (i := 8) (N := some 86) (v := undef) (a' := ?_) #[true, true, true, true, true, true, true, true, true, false, false, false, false, false, false] rfl rfl (any_of HT_.out (by kernel_rfl)) (fun _ _ _ h => h) (Or.inr ⟨by rfl, rfl⟩) ?_ ?_
                            rotate_left
                            · simp only [Act.put, List.setIfInBounds_toArray, List.set_cons_zero, List.set_cons_succ, i64_w, i32_w, xu32_w, xu8_w]
                              rfl
                            refine pure_ (i := 9) (N := some 87) (v := undef) (a' := ?_) #[true, true, true, true, true, true, true, true, true, true, false, false, false, false, false] rfl rfl (any_of HT_.out (by kernel_rfl)) (fun _ _ _ h => h) (Or.inr ⟨by rfl, rfl⟩) ?_ ?_
                            rotate_left
                            · simp only [Act.put, List.setIfInBounds_toArray, List.set_cons_zero, List.set_cons_succ, i64_w, i32_w, xu32_w, xu8_w]
                              rfl
                            refine pure_ (i := 10) (N := some 88) (v := undef) (a' := ?_) #[true, true, true, true, true, true, true, true, true, true, true, false, false, false, false] rfl rfl (any_of HT_.out (by kernel_rfl)) (fun _ _ _ h => h) (Or.inr ⟨by rfl, rfl⟩) ?_ ?_
                            rotate_left
                            · simp only [Act.put, List.setIfInBounds_toArray, List.set_cons_zero, List.set_cons_succ, i64_w, i32_w, xu32_w, xu8_w]
                              rfl
                            refine pure_ (i := 11) (N := some 89) (v := undef) (a' := ?_) #[true, true, true, true, true, true, true, true, true, true, true, true, false, false, false] rfl rfl (any_of HT_.out (by kernel_rfl)) (fun _ _ _ h => h) (Or.inr ⟨by rfl, rfl⟩) ?_ ?_
                            rotate_left
                            · simp only [Act.put, List.setIfInBounds_toArray, List.set_cons_zero, List.set_cons_succ, i64_w, i32_w, xu32_w, xu8_w]
                              rfl
                            refine pure_ (i := 12) (N := some 90) (v := undef) (a' := ?_) #[true, true, true, true, true, true, true, true, true, true, true, true, true, false, false] rfl rfl (any_of HT_.out (by kernel_rfl)) (fun _ _ _ h => h) (Or.inr ⟨by rfl, rfl⟩) ?_ ?_
                            rotate_left
                            · simp only [Act.put, List.setIfInBounds_toArray, List.set_cons_zero, List.set_cons_succ, i64_w, i32_w, xu32_w, xu8_w]
                              rfl
                            refine pure_ (i := 13) (N := some 91) (v := ?_) (a' := ?_) #[true, true, true, true, true, true, true, true, true, true, true, true, true, true, false] rfl rfl (any_of HT_.out (by kernel_rfl)) (fun _ _ _ h => h) (Or.inl ⟨by rfl, ?_⟩) ?_ ?_
                            rotate_left
                            · intro w'
                              go_simp
                              with_reducible rfl
                            rotate_left
                            · simp only [Act.put, List.setIfInBounds_toArray, List.set_cons_zero, List.set_cons_succ, i64_w, i32_w, xu32_w, xu8_w]
                              rfl
                            refine pure_ (i := 14) (N := some 77) (v := ?_) (a' := ?_) #[true, true, true, true, true, true, true, true, true, true, true, true, true, true, true] rfl rfl (any_of HT_.out (by kernel_rfl)) (fun _ _ _ h => h) (Or.inl ⟨by rfl, ?_⟩) ?_ ?_
                            rotate_left
                            · intro w'
                              go_simp
                              with_reducible rfl
                            rotate_left
                            · simp only [Act.put, List.setIfInBounds_toArray, List.set_cons_zero, List.set_cons_succ, i64_w, i32_w, xu32_w, xu8_w]
                              rfl
                            refine done_ (done_of HT_.out (by kernel_rfl)) ?_
                            try go_wp2
                            go_meet
                            case rel => exact ⟨_, (true), (by first | rfl | (simp; done) | (simp [*]; done)), H', ⟨by have := HJ2.out; have := HK2.out; have := HJ15.out; have := HJ21.out; first | omega | exact Nat.le_refl _⟩, ⟨by (with_reducible repeat (first | apply Kd.V_alloc | apply Kd.V_drewN | apply Kd.V_drew)); exact HO_0.out⟩, ⟨by (with_reducible repeat (first | apply Kd.V_alloc | apply Kd.V_drewN | apply Kd.V_drew)); exact HO_1.out⟩, ⟨by (with_reducible repeat (first | apply Kd.R_alloc | apply Kd.R_drewN | apply Kd.R_drew)); exact HO_6.out⟩, ⟨by repeat (first | (with_reducible first | exact HB.out | apply below_alloc | apply pw_below_drewN | apply below_drew1) | exact HB.out)⟩⟩
                          · rw [if_neg c43] at H
                            have c43b0 : ((x0_2.length : Int) == 0) = false := beq_eq_false_iff_ne.mpr c43
                            have c43b1 : ((x0_2.length : Int) != 0) = true := bne_iff_ne.mpr c43
                            have c43b2 : ¬ (x0_2 = []) := fun h_ => c43 (by rw [h_]; rfl)
                            (first | rw [c43b0] | (simp only [i64_w, i32_w, xu32_w, xu8_w]; rw [c43b0]) | skip)
                            by_cases c46 : 0 < (x1_2.length : Int)
                            rotate_left
                            · rw [if_neg c46] at H
                              exact absurd H (by simp)
                            rw [if_pos c46] at H
                            have c46b0 : decide (0 < (x1_2.length : Int)) = true := decide_eq_true c46
                            have c46b1 : decide (0 < x1_2.length) = true := decide_eq_true (by omega)
                            clear c46
                            by_cases c47 : 0 < (x0_2.length : Int)
                            rotate_left
                            · rw [if_neg c47] at H
                              exact absurd H (by simp)
                            rw [if_pos c47] at H
                            have c47b0 : decide (0 < (x0_2.length : Int)) = true := decide_eq_true c47
                            have c47b1 : decide (0 < x0_2.length) = true := decide_eq_true (by omega)
                            clear c47
                            have H' := Aside0.mk H
                            clear H
                            try go_wp2
                            have n0_ := Aside0.mk (Kd.V_drew HO_0.out)
                            have n1_ := Aside0.mk (Kd.V_drew HO_1.out)
                            have n2_ := Aside0.mk (Kd.R_drew HO_6.out)
                            have n3_ := Aside0.mk (below_drew1 HB.out)
                            clear HO_0
                            clear HO_1
                            clear HO_6
                            clear HB
                            have HO_0 := n0_
                            have HO_1 := n1_
                            have HO_6 := n2_
                            have HB := n3_
                            clear n0_ n1_ n2_ n3_
                            obtain ⟨Ao49, co49, eo49⟩ := Kd.V_slice HO_0.out
                            (first | subst eo49 | (injection eo49 with f1_ f2_ f3_; have f4_ := f1_.symm; have f5_ := f3_.symm; clear f1_ f2_ f3_; subst f4_; subst f5_))
                            obtain ⟨Ao50, co50, eo50⟩ := Kd.V_slice HO_1.out
                            (first | subst eo50 | (injection eo50 with f1_ f2_ f3_; have f4_ := f1_.symm; have f5_ := f3_.symm; clear f1_ f2_ f3_; subst f4_; subst f5_))
                            have p189 : 0 ≤ (0 : Int) := (by omega)
                            have q189 : 0 < (x1_2.length : Int) := of_decide_eq_true (by first | (with_reducible assumption) | assumption)
                            obtain ⟨ad189, e189, hx189_0, hx189_1, hx189_2⟩ := at_T25 (Kd.V_reads' HO_1.out).2.2 0 p189 q189
                            cases e189
                            have qi189 : (0 < x1_2.length) = True := eq_true (by omega)
                            (try rw [show ((0 : Int)).toNat = 0 from rfl] at hx189_0)
                            (try rw [show 0 * 3 = 0 from rfl] at hx189_0)
                            (try rw [Addr.add_zero'] at hx189_0)
                            (try rw [show ((0 : Int)).toNat = 0 from rfl] at hx189_1)
                            (try rw [show 0 * 3 = 0 from rfl] at hx189_1)
                            (try rw [Addr.add_zero'] at hx189_1)
                            (try rw [show ((0 : Int)).toNat = 0 from rfl] at hx189_2)
                            (try rw [show 0 * 3 = 0 from rfl] at hx189_2)
                            (try rw [Addr.add_zero'] at hx189_2)
                            replace p189 := eq_true p189
                            replace q189 := eq_true q189
                            have p190 : 0 ≤ (0 : Int) := (by omega)
                            have q190 : 0 < (x0_2.length : Int) := of_decide_eq_true (by first | (with_reducible assumption) | assumption)
                            obtain ⟨ad190, e190, hx190_0, hx190_1, hx190_2⟩ := at_T25 (Kd.V_reads' HO_0.out).2.2 0 p190 q190
                            cases e190
                            have qi190 : (0 < x0_2.length) = True := eq_true (by omega)
                            (try rw [show ((0 : Int)).toNat = 0 from rfl] at hx190_0)
                            (try rw [show 0 * 3 = 0 from rfl] at hx190_0)
                            (try rw [Addr.add_zero'] at hx190_0)
                            (try rw [show ((0 : Int)).toNat = 0 from rfl] at hx190_1)
                            (try rw [show 0 * 3 = 0 from rfl] at hx190_1)
                            (try rw [Addr.add_zero'] at hx190_1)
                            (try rw [show ((0 : Int)).toNat = 0 from rfl] at hx190_2)
                            (try rw [show 0 * 3 = 0 from rfl] at hx190_2)
                            (try rw [Addr.add_zero'] at hx190_2)
                            replace p190 := eq_true p190
                            replace q190 := eq_true q190
                            refine start_ (n := 15) (S := fun w' => w'.cell? ad189 = some (.int .i64 ((rd_T25 x1_2 0).f0)) ∧ w'.cell? ⟨ad189.block, ad189.off + 1, none⟩ = some (.int .u64 ((rd_T25 x1_2 0).f1)) ∧ w'.cell? ⟨ad189.block, ad189.off + 2, none⟩ = some (.int .u64 ((rd_T25 x1_2 0).f2)) ∧ w'.cell? ad190 = some (.int .i64 ((rd_T25 x0_2 0).f0)) ∧ w'.cell? ⟨ad190.block, ad190.off + 1, none⟩ = some (.int .u64 ((rd_T25 x0_2 0).f1)) ∧ w'.cell? ⟨ad190.block, ad190.off + 2, none⟩ = some (.int .u64 ((rd_T25 x0_2 0).f2))) (ds := []) #[false, false, false, false, false, false, false, false, false, false, false, false, false, false, false] (by kernel_rfl) rfl rfl ⟨hx189_0, hx189_1, hx189_2, hx190_0, hx190_1, hx190_2⟩ (fun hHeld => ?_); refine with_tabW points_Merge.tab13 points_Merge.bits13 (fun HT_ HW_ => ?_)
                            generalize wc.drew = w48 at HO_0 HO_1 HO_6 HB hx189_0 hx189_1 hx189_2 hx190_0 hx190_1 hx190_2 hHeld ⊢
                            refine pure_ (i := 0) (N := some 78) (v := ?_) (a' := ?_) #[true, false, false, false, false, false, false, false, false, false, false, false, false, false, false] rfl rfl (any_of HT_.out (by kernel_rfl)) (fun _ _ _ h => h) (Or.inl ⟨by rfl, ?_⟩) ?_ ?_
                            rotate_left
                            · intro w'
                              go_simp
                              with_reducible rfl
                            rotate_left
                            · simp only [Act.put, List.setIfInBounds_toArray, List.set_cons_zero, List.set_cons_succ, i64_w, i32_w, xu32_w, xu8_w]
                              rfl
                            refine pure_ (i := 1) (N := some 79) (v := ?_) (a' := ?_) #[true, true, false, false, false, false, false, false, false, false, false, false, false, false, false] rfl rfl (any_of HT_.out (by kernel_rfl)) (fun _ _ _ h => h) (Or.inl ⟨by rfl, ?_⟩) ?_ ?_
                            rotate_left
                            · intro w'
                              go_simp
                              with_reducible rfl
                            rotate_left
                            · simp only [Act.put, List.setIfInBounds_toArray, List.set_cons_zero, List.set_cons_succ, i64_w, i32_w, xu32_w, xu8_w]
                              rfl
                            refine pure_ (i := 2) (N := some 80) (v := ?_) (a' := ?_) #[true, true, true, false, false, false, false, false, false, false, false, false, false, false, false] rfl rfl (any_of HT_.out (by kernel_rfl)) (fun _ _ _ h => h) (Or.inl ⟨by rfl, ?_⟩) ?_ ?_
                            rotate_left
                            · intro w'
                              go_simp
                              with_reducible rfl
                            rotate_left
                            · simp only [Act.put, List.setIfInBounds_toArray, List.set_cons_zero, List.set_cons_succ, i64_w, i32_w, xu32_w, xu8_w]
                              rfl
                            refine pure_ (i := 3) (N := some 81) (v := ?_) (a' := ?_) #[true, true, true, true, false, false, false, false, false, false, false, false, false, false, false] rfl rfl (any_of HT_.out (by kernel_rfl)) (fun _ _ _ h => h) (Or.inl ⟨by rfl, ?_⟩) ?_ ?_
                            rotate_left
                            · intro w'
                              go_simp
                              with_reducible rfl
                            rotate_left
                            · simp only [Act.put, List.setIfInBounds_toArray, List.set_cons_zero, List.set_cons_succ, i64_w, i32_w, xu32_w, xu8_w]
                              rfl
                            refine pure_ (i := 4) (N := some 82) (v := ?_) (a' := ?_) #[true, true, true, true, true, false, false, false, false, false, false, false, false, false, false] rfl rfl (any_of HT_.out (by kernel_rfl)) (fun _ _ _ h => h) (Or.inl ⟨by rfl, ?_⟩) ?_ ?_
                            rotate_left
                            · intro w'
                              go_simp
                              with_reducible rfl
                            rotate_left
                            · simp only [Act.put, List.setIfInBounds_toArray, List.set_cons_zero, List.set_cons_succ, i64_w, i32_w, xu32_w, xu8_w]
                              rfl
                            refine pure_ (i := 5) (N := some 83) (v := ?_) (a' := ?_) #[true, true, true, true, true, true, false, false, false, false, false, false, false, false, false] rfl rfl (any_of HT_.out (by kernel_rfl)) (fun _ _ _ h => h) (Or.inl ⟨by rfl, ?_⟩) ?_ ?_
                            rotate_left
                            · intro w'
                              go_simp
                              with_reducible rfl
                            rotate_left
                            · simp only [Act.put, List.setIfInBounds_toArray, List.set_cons_zero, List.set_cons_succ, i64_w, i32_w, xu32_w, xu8_w]
                              rfl
                            refine pure_ (i := 6) (N := some 84) (v := ?_) (a' := ?_) #[true, true, true, true, true, true, true, false, false, false, false, false, false, false, false] rfl rfl (any_of HT_.out (by kernel_rfl)) (fun _ _ _ h => h) (Or.inl ⟨by rfl, ?_⟩) ?_ ?_
                            rotate_left
                            · intro w'
                              go_simp
                              with_reducible rfl
                            rotate_left
                            · simp only [Act.put, List.setIfInBounds_toArray, List.set_cons_zero, List.set_cons_succ, i64_w, i32_w, xu32_w, xu8_w]
                              rfl
                            refine pure_ (i := 8) (N := some 86) (v := ?_) (a' := ?_) #[true, true, true, true, true, true, true, false, true, false, false, false, false, false, false] rfl rfl (any_of HT_.out (by kernel_rfl)) (fun _ _ _ h => h) (Or.inl ⟨by rfl, ?_⟩) ?_ ?_
                            rotate_left
                            · intro w'
                              go_simp
                              with_reducible rfl
                            rotate_left
                            · simp only [Act.put, List.setIfInBounds_toArray, List.set_cons_zero, List.set_cons_succ, i64_w, i32_w, xu32_w, xu8_w]
                              rfl
                            refine pure_ (i := 9) (N := some 87) (v := ?_) (a' := ?_) #[true, true, true, true, true, true, true, false, true, true, false, false, false, false, false] rfl rfl (any_of HT_.out (by kernel_rfl)) (fun _ _ _ h => h) (Or.inl ⟨by rfl, ?_⟩) ?_ ?_
                            rotate_left
                            · intro w'
                              go_simp
                              with_reducible rfl
                            rotate_left
                            · simp only [Act.put, List.setIfInBounds_toArray, List.set_cons_zero, List.set_cons_succ, i64_w, i32_w, xu32_w, xu8_w]
                              rfl
                            refine pure_ (i := 10) (N := some 88) (v := ?_) (a' := ?_) #[true, true, true, true, true, true, true, false, true, true, true, false, false, false, false] rfl rfl (any_of HT_.out (by kernel_rfl)) (fun _ _ _ h => h) (Or.inl ⟨by rfl, ?_⟩) ?_ ?_
                            rotate_left
                            · intro w'
                              go_simp
                              with_reducible rfl
                            rotate_left
                            · simp only [Act.put, List.setIfInBounds_toArray, List.set_cons_zero, List.set_cons_succ, i64_w, i32_w, xu32_w, xu8_w]
                              rfl
                            refine take_ (i := 7) (N := some 85) (v := ?_) (a' := ?_) #[true, true, true, true, true, true, true, true, true, true, true, false, false, false, false] rfl rfl (take_ofW HT_.out HW_.out (by kernel_rfl)) (fun _ _ _ h => h) (Or.inl ⟨by rfl, ?_⟩) hHeld ?_ ?_
                            rotate_left
                            · rintro w' ⟨s0, s1, s2, s3, s4, s5⟩
                              go_simp
                              with_reducible rfl
                            rotate_left
                            · simp only [Act.put, List.setIfInBounds_toArray, List.set_cons_zero, List.set_cons_succ, i64_w, i32_w, xu32_w, xu8_w]
                              rfl
                            refine take_ (i := 11) (N := some 89) (v := ?_) (a' := ?_) #[true, true, true, true, true, true, true, true, true, true, true, true, false, false, false] rfl rfl (take_ofW HT_.out HW_.out (by kernel_rfl)) (fun _ _ _ h => h) (Or.inl ⟨by rfl, ?_⟩) hHeld ?_ ?_
                            rotate_left
                            · rintro w' ⟨s0, s1, s2, s3, s4, s5⟩
                              go_simp
                              with_reducible rfl
                            rotate_left
                            · simp only [Act.put, List.setIfInBounds_toArray, List.set_cons_zero, List.set_cons_succ, i64_w, i32_w, xu32_w, xu8_w]
                              rfl
                            refine pure_ (i := 12) (N := some 90) (v := ?_) (a' := ?_) #[true, true, true, true, true, true, true, true, true, true, true, true, true, false, false] rfl rfl (any_of HT_.out (by kernel_rfl)) (fun _ _ _ h => h) (Or.inl ⟨by rfl, ?_⟩) ?_ ?_
                            rotate_left
                            · intro w'
                              go_simp
                              with_reducible rfl
                            rotate_left
                            · simp only [Act.put, List.setIfInBounds_toArray, List.set_cons_zero, List.set_cons_succ, i64_w, i32_w, xu32_w, xu8_w]
                              rfl
                            refine pure_ (i := 13) (N := some 91) (v := ?_) (a' := ?_) #[true, true, true, true, true, true, true, true, true, true, true, true, true, true, false] rfl rfl (any_of HT_.out (by kernel_rfl)) (fun _ _ _ h => h) (Or.inl ⟨by rfl, ?_⟩) ?_ ?_
                            rotate_left
                            · intro w'
                              go_simp
                              with_reducible rfl
                            rotate_left
                            · simp only [Act.put, List.setIfInBounds_toArray, List.set_cons_zero, List.set_cons_succ, i64_w, i32_w, xu32_w, xu8_w]
                              rfl
                            refine pure_ (i := 14) (N := some 77) (v := ?_) (a' := ?_) #[true, true, true, true, true, true, true, true, true, true, true, true, true, true, true] rfl rfl (any_of HT_.out (by kernel_rfl)) (fun _ _ _ h => h) (Or.inl ⟨by rfl, ?_⟩) ?_ ?_
                            rotate_left
                            · intro w'
                              go_simp
                              with_reducible rfl
                            rotate_left
                            · simp only [Act.put, List.setIfInBounds_toArray, List.set_cons_zero, List.set_cons_succ, i64_w, i32_w, xu32_w, xu8_w]
                              rfl
                            refine done_ (done_of HT_.out (by kernel_rfl)) ?_
                            try go_wp2
                            go_meet
                            case rel => exact ⟨_, (decide (((rd_T25 x1_2 0).f0) < ((rd_T25 x0_2 0).f0))), (by first | rfl | (simp; done) | (simp [*]; done)), H', ⟨by have := HJ2.out; have := HK2.out; have := HJ15.out; have := HJ21.out; first | omega | exact Nat.le_refl _⟩, ⟨by (with_reducible repeat (first | apply Kd.V_alloc | apply Kd.V_drewN | apply Kd.V_drew)); exact HO_0.out⟩, ⟨by (with_reducible repeat (first | apply Kd.V_alloc | apply Kd.V_drewN | apply Kd.V_drew)); exact HO_1.out⟩, ⟨by (with_reducible repeat (first | apply Kd.R_alloc | apply Kd.R_drewN | apply Kd.R_drew)); exact HO_6.out⟩, ⟨by repeat (first | (with_reducible first | exact HB.out | apply below_alloc | apply pw_below_drewN | apply below_drew1) | exact HB.out)⟩⟩
                        case rest =>
                          clear HC42
                          try clear c1
                          try clear p1
                          try clear q1
                          try clear hx1
                          try clear qi1
                          try clear c2
                          try clear p2
                          try clear c3
                          try clear c4
                          try clear q4
                          try clear c5
                          try clear p6
                          try clear c10
                          try clear c12
                          try clear c12b0
                          try clear c12b1
                          try clear c13
                          try clear c13b0
                          try clear c13b1
                          try clear c14
                          try clear c17
                          try clear c17b0
                          try clear c17b1
                          try clear p17
                          try clear q17
                          try clear hx17
                          try clear qi17
                          try clear p18
                          try clear q18
                          try clear hx18
                          try clear qi18
                          try clear p19
                          try clear q19
                          try clear hx19
                          try clear qi19
                          try clear c21
                          try clear c23
                          try clear c23b0
                          try clear c23b1
                          try clear c23b2
                          try clear c26
                          try clear c26b0
                          try clear c26b1
                          try clear c27
                          try clear c27b0
                          try clear c27b1
                          try clear c28
                          try clear c28b0
                          try clear c28b1
                          try clear c35
                          try clear c36
                          try clear c36b0
                          try clear c36b1
                          try clear c37
                          try clear c38
                          try clear c38b0
                          try clear c38b1
                          try clear c41
                          try clear q41
                          try clear c43
                          try clear c43b0
                          try clear c43b1
                          try clear c43b2
                          try clear c46
                          try clear c46b0
                          try clear c46b1
                          try clear c47
                          try clear c47b0
                          try clear c47b1
                          try clear hx178_0
                          try clear hx178_1
                          try clear hx178_2
                          try clear hx179_0
                          try clear hx179_1
                          try clear hx179_2
                          try clear hx180_0
                          try clear hx180_1
                          try clear hx180_2
                          try clear hx189_0
                          try clear hx189_1
                          try clear hx189_2
                          try clear hx190_0
                          try clear hx190_1
                          try clear hx190_2
                          try clear p1
                          try clear p17
                          try clear p178
                          try clear p179
                          try clear p180
                          try clear p189
                          try clear p190
                          try clear p2
                          try clear p6
                          try clear q1
                          try clear q17
                          try clear q178
                          try clear q179
                          try clear q180
                          try clear q189
                          try clear q190
                          try clear q41
                          obtain ⟨kq, x77_41, rfl, HA, HJ41, HO_0, HO_1, HO_6, HB⟩ := hcut
                          cases kq with
                          | zero => exact absurd HA.out (by simp [points_Merge.j4])
                          | succ kj41 =>
                            have H := HA.out
                            clear HA
                            simp only [points_Merge.j4] at H
                            by_cases c51 : x77_41 = true
                            · subst c51
                              have H1 : (if 0 < (x1_2.length : Int) then (if x6_2.length < 5864062014805 then (if 1 ≤ (x1_2.length : Int) then (points_Merge.l0 kj41 x0_2 (x1_2.drop 1) (x6_2 ++ [(⟨(rd_T25 x1_2 0).f0, (rd_T25 x1_2 0).f1, (rd_T25 x1_2 0).f2⟩ : S25)])) else (none)) else (none)) else (none)) = some (r1, r2) := by rw [if_pos rfl] at H; exact H
                              clear H
                              have H := H1
                              clear H1
                              by_cases c52 : 0 < (x1_2.length : Int)
                              rotate_left
                              · rw [if_neg c52] at H
                                exact absurd H (by simp)
                              rw [if_pos c52] at H
                              have c52b0 : decide (0 < (x1_2.length : Int)) = true := decide_eq_true c52
                              have c52b1 : decide (0 < x1_2.length) = true := decide_eq_true (by omega)
                              clear c52
                              by_cases c53 : x6_2.length < 5864062014805
                              rotate_left
                              · rw [if_neg c53] at H
                                exact absurd H (by simp)
                              rw [if_pos c53] at H
                              have LMc53 := Aside0.mk c53
                              clear c53
                              obtain ⟨y192, hy192⟩ : ∃ y_ : List (S25), y_ = (x6_2 ++ [(⟨(rd_T25 x1_2 0).f0, (rd_T25 x1_2 0).f1, (rd_T25 x1_2 0).f2⟩ : S25)]) := ⟨_, rfl⟩
                              replace H : (if 1 ≤ (x1_2.length : Int) then (points_Merge.l0 kj41 x0_2 (x1_2.drop 1) y192) else (none)) = some (r1, r2) := by first | (rw [hy192]; with_reducible exact H) | (have H2_ := (Option.bind_some _ _).symm.trans H; rw [hy192]; with_reducible exact H2_) | (have H2_ := (Option.bind_some _ _).symm.trans H; with_reducible exact H2_) | with_reducible exact H | (rw [hy192]; exact H) | exact H
                              have Ny192 := Aside0.mk hy192
                              clear hy192
                              by_cases c54 : 1 ≤ (x1_2.length : Int)
                              rotate_left
                              · rw [if_neg c54] at H
                                exact absurd H (by simp)
                              rw [if_pos c54] at H
                              have c54b0 := eq_true c54
                              have c54b1 : decide (1 ≤ (x1_2.length : Int)) = true := decide_eq_true c54
                              clear c54
                              obtain ⟨y195, hy195⟩ : ∃ y_ : List (S25), y_ = (x1_2.drop 1) := ⟨_, rfl⟩
                              replace H : (points_Merge.l0 kj41 x0_2 y195 y192) = some (r1, r2) := by first | (rw [hy195]; with_reducible exact H) | (have H2_ := (Option.bind_some _ _).symm.trans H; rw [hy195]; with_reducible exact H2_) | (have H2_ := (Option.bind_some _ _).symm.trans H; with_reducible exact H2_) | with_reducible exact H | (rw [hy195]; exact H) | exact H
                              have Ny195 := Aside0.mk hy195
                              clear hy195
                              have H' := Aside0.mk H
                              clear H
                              obtain ⟨Ao55, co55, eo55⟩ := Kd.V_slice HO_1.out
                              subst eo55
                              have p191 : 0 ≤ (0 : Int) := (by omega)
                              have q191 : 0 < (x1_2.length : Int) := of_decide_eq_true (by first | (with_reducible assumption) | assumption)
                              obtain ⟨ad191, e191, hx191_0, hx191_1, hx191_2⟩ := at_T25 (Kd.V_reads' HO_1.out).2.2 0 p191 q191
                              cases e191
                              have qi191 : (0 < x1_2.length) = True := eq_true (by omega)
                              (try rw [show ((0 : Int)).toNat = 0 from rfl] at hx191_0)
                              (try rw [show 0 * 3 = 0 from rfl] at hx191_0)
                              (try rw [Addr.add_zero'] at hx191_0)
                              (try rw [show ((0 : Int)).toNat = 0 from rfl] at hx191_1)
                              (try rw [show 0 * 3 = 0 from rfl] at hx191_1)
                              (try rw [Addr.add_zero'] at hx191_1)
                              (try rw [show ((0 : Int)).toNat = 0 from rfl] at hx191_2)
                              (try rw [show 0 * 3 = 0 from rfl] at hx191_2)
                              (try rw [Addr.add_zero'] at hx191_2)
                              replace p191 := eq_true p191
                              replace q191 := eq_true q191
                              go_wp2_with (first | ((with_reducible refine gate_builtin (b := .append) (xs := #[.tmp 92, .tmp 96]) rfl ?_); (try (refine gate_guard (by rfl) ?_; dsimp only)); at_builtin; refine Kd.R_append k25 (w0 := w) w.heap.size rfl (.tmp 92) (.tmp 96) 22 25 (.agg #[(.int .i64 0), (.int .u64 0), (.int .u64 0)]) 24 rfl Try.underlying22 info25 rfl (by decide) (by omega) u6 x6_2 (⟨(rd_T25 x1_2 0).f0, (rd_T25 x1_2 0).f1, (rd_T25 x1_2 0).f2⟩ : S25) [.int .i64 ((rd_T25 x1_2 0).f0), .int .u64 ((rd_T25 x1_2 0).f1), .int .u64 ((rd_T25 x1_2 0).f2)] (fun k_ => (w.heap.size ≤ k_)) (fun _ => False) rfl rfl ?aP (fun _ hk => hk.elim) ?aF ?aO ?aB ?aS ?aL ?_; (case aP => exact k25_mkM _ _ _ (⟨(rd_T25 x1_2 0).f0, (rd_T25 x1_2 0).f1, (rd_T25 x1_2 0).f2⟩ : S25)); (case aB => exact (by repeat (first | (with_reducible first | exact HB.out | apply below_alloc | apply pw_below_drewN | apply below_drew1) | exact HB.out))); (case aF => exact (fun k_ hk => (Nat.le_trans (below_size (by repeat (first | (with_reducible first | exact HB.out | apply below_alloc | apply pw_below_drewN | apply below_drew1) | exact HB.out))) hk))); (case aO => exact (by (with_reducible repeat (first | apply Kd.R_alloc | apply Kd.R_drewN | apply Kd.R_drew)); exact HO_6.out)); (case aS => exact (below_size (by repeat (first | (with_reducible first | exact HB.out | apply below_alloc | apply pw_below_drewN | apply below_drew1) | exact HB.out)))); (case aL => have := LMc53.out; omega); intro v193 w56 ho hb hg hat; rw [← Ny192.out] at ho; have n0_ := Aside0.mk (Kd.V_afterv (ok := (fun k_ => ((P0_ k_ ∨ P1_ k_) ∨ w.heap.size ≤ k_))) (by (with_reducible repeat (first | apply Kd.V_alloc | apply Kd.V_drewN | apply Kd.V_drew)); exact HO_0.out) hg hat); have n1_ := Aside0.mk (Kd.V_afterv (ok := (fun k_ => ((P0_ k_ ∨ P1_ k_) ∨ w.heap.size ≤ k_))) (by (with_reducible repeat (first | apply Kd.V_alloc | apply Kd.V_drewN | apply Kd.V_drew)); exact HO_1.out) hg hat); have n2_ := Aside0.mk (hb); have n3_ := Aside0.mk (ho); clear HO_0; clear HO_1; clear HB; clear HO_6; have HO_0 := n0_; have HO_1 := n1_; have HB := n2_; have HO194 := n3_; clear n0_ n1_ n2_ n3_; clear ho hb hg hat; have q57 : (1 : Int) ≤ ((x1_2.length : Int) : Int) := of_decide_eq_true (by first | (with_reducible assumption) | assumption); obtain ⟨i057, hi057, _, hsz57, _⟩ := info_parts info25; have hroom57 : x1_2.length ≤ co55 := (Kd.V_reads' HO_1.out).2.1; have hC57 : Kd.F k25 _ _ (some ad191) x1_2.length x1_2 := (Kd.V_at (base := w.heap.size) HO_1.out).2.2; have hcut57 := cut_from (P := Try.prog) 22 25 .i64 Try.underlying22 hi057 3 hsz57 (some ad191) x1_2.length co55 1 (by omega) q57; have hr57 := Kd.F_cut (m := (1 : Int).toNat) (c := co55) hC57 (by omega) hroom57; obtain ⟨A57, hA57⟩ : ∃ A1, A1 = (if co55 = (1 : Int).toNat then (some ad191) else ((some ad191) : Option Addr).map (·.add ((1 : Int).toNat * 3))) := ⟨_, rfl⟩; obtain ⟨c57, hc57⟩ : ∃ c1, c1 = co55 - (1 : Int).toNat := ⟨_, rfl⟩; have hy57 : y195.length = x1_2.length - (1 : Int).toNat := (by rw [Ny195.out, List.length_drop] <;> omega); rw [show (x1_2).drop (1 : Int).toNat = y195 from Ny195.out.symm] at hr57; replace hr57 : Kd.F k25 _ _ A57 y195.length y195 := (by rw [hA57]; exact hr57); rw [← hy57, ← hA57, ← hc57] at hcut57; have HO199 := Aside0.mk (show Kd.V k25 25 _ w.heap.size _ (.slice A57 y195.length c57) y195 from Kd.V_mk (by rw [hy57, hc57]; exact Nat.sub_le_sub_right hroom57 _) hr57); have HC199 := Aside0.mk (show y195.length ≤ c57 from by rw [hy57, hc57]; exact Nat.sub_le_sub_right hroom57 _); clear hr57 hC57 hroom57 hi057 hsz57 hc57; have KY57 := Aside0.mk hy57; have KA57 := Aside0.mk hA57; clear hy57 hA57; replace q57 := eq_true q57))
                              go_roundg kj41
                              case measure => have := HJ2.out; have := HK2.out; have := HJ15.out; have := HJ21.out; have := HJ41.out; omega
                              case rel => exact ⟨(x0_2), (y195), (y192), H', ⟨by have := HJ2.out; have := HK2.out; have := HJ15.out; have := HJ21.out; have := HJ41.out; omega⟩, ⟨by (with_reducible repeat (first | apply Kd.V_alloc | apply Kd.V_drewN | apply Kd.V_drew)); exact HO_0.out⟩, ⟨by (with_reducible repeat (first | apply Kd.V_alloc | apply Kd.V_drewN | apply Kd.V_drew)); exact HO199.out⟩, ⟨by (with_reducible repeat (first | apply Kd.R_alloc | apply Kd.R_drewN | apply Kd.R_drew)); exact HO194.out⟩, ⟨by repeat (first | (with_reducible first | exact HB.out | apply below_alloc | apply pw_below_drewN | apply below_drew1) | exact HB.out)⟩⟩
                            · replace c51 := Bool.eq_false_iff.mpr c51
                              subst c51
                              have H1 : (if 0 < (x0_2.length : Int) then (if 0 < (x1_2.length : Int) then ((points_Ahead.f ((rd_T25 x1_2 0).f0) ((rd_T25 x1_2 0).f1) ((rd_T25 x1_2 0).f2) ((rd_T25 x0_2 0).f0) ((rd_T25 x0_2 0).f1) ((rd_T25 x0_2 0).f2)).bind fun t203 => (if t203 = true then (if x6_2.length < 5864062014805 then (if 1 ≤ (x0_2.length : Int) then (if 1 ≤ (x1_2.length : Int) then (points_Merge.l0 kj41 (x0_2.drop 1) (x1_2.drop 1) (x6_2 ++ [(⟨(rd_T25 x1_2 0).f0, (rd_T25 x1_2 0).f1, (rd_T25 x1_2 0).f2⟩ : S25)])) else (none)) else (none)) else (none)) else (if x6_2.length < 5864062014805 then (if 1 ≤ (x0_2.length : Int) then (if 1 ≤ (x1_2.length : Int) then (points_Merge.l0 kj41 (x0_2.drop 1) (x1_2.drop 1) (x6_2 ++ [(⟨(rd_T25 x0_2 0).f0, (rd_T25 x0_2 0).f1, (rd_T25 x0_2 0).f2⟩ : S25)])) else (none)) else (none)) else (none)))) else (none)) else (none)) = some (r1, r2) := by rw [if_neg (show ¬ (false = true) by decide)] at H; exact H
                              clear H
                              have H := H1
                              clear H1
                              by_cases c58 : 0 < (x0_2.length : Int)
                              rotate_left
                              · rw [if_neg c58] at H
                                exact absurd H (by simp)
                              rw [if_pos c58] at H
                              have c58b0 : decide (0 < (x0_2.length : Int)) = true := decide_eq_true c58
                              have c58b1 : decide (0 < x0_2.length) = true := decide_eq_true (by omega)
                              clear c58
                              by_cases c59 : 0 < (x1_2.length : Int)
                              rotate_left
                              · rw [if_neg c59] at H
                                exact absurd H (by simp)
                              rw [if_pos c59] at H
                              have c59b0 : decide (0 < (x1_2.length : Int)) = true := decide_eq_true c59
                              have c59b1 : decide (0 < x1_2.length) = true := decide_eq_true (by omega)
                              clear c59
                              replace H := Option.bind_eq_some_iff.mp H
                              obtain ⟨t203, A600, H⟩ := H
                              replace H : (if t203 = true then (if x6_2.length < 5864062014805 then (if 1 ≤ (x0_2.length : Int) then (if 1 ≤ (x1_2.length : Int) then (points_Merge.l0 kj41 (x0_2.drop 1) (x1_2.drop 1) (x6_2 ++ [(⟨(rd_T25 x1_2 0).f0, (rd_T25 x1_2 0).f1, (rd_T25 x1_2 0).f2⟩ : S25)])) else (none)) else (none)) else (none)) else (if x6_2.length < 5864062014805 then (if 1 ≤ (x0_2.length : Int) then (if 1 ≤ (x1_2.length : Int) then (points_Merge.l0 kj41 (x0_2.drop 1) (x1_2.drop 1) (x6_2 ++ [(⟨(rd_T25 x0_2 0).f0, (rd_T25 x0_2 0).f1, (rd_T25 x0_2 0).f2⟩ : S25)])) else (none)) else (none)) else (none))) = some (r1, r2) := H
                              have A60 := Aside0.mk A600
                              clear A600
                              by_cases c61 : t203 = true
                              · subst c61
                                have H1 : (if x6_2.length < 5864062014805 then (if 1 ≤ (x0_2.length : Int) then (if 1 ≤ (x1_2.length : Int) then (points_Merge.l0 kj41 (x0_2.drop 1) (x1_2.drop 1) (x6_2 ++ [(⟨(rd_T25 x1_2 0).f0, (rd_T25 x1_2 0).f1, (rd_T25 x1_2 0).f2⟩ : S25)])) else (none)) else (none)) else (none)) = some (r1, r2) := by rw [if_pos rfl] at H; exact H
                                clear H
                                have H := H1
                                clear H1
                                by_cases c62 : x6_2.length < 5864062014805
                                rotate_left
                                · rw [if_neg c62] at H
                                  exact absurd H (by simp)
                                rw [if_pos c62] at H
                                have LMc62 := Aside0.mk c62
                                clear c62
                                obtain ⟨y205, hy205⟩ : ∃ y_ : List (S25), y_ = (x6_2 ++ [(⟨(rd_T25 x1_2 0).f0, (rd_T25 x1_2 0).f1, (rd_T25 x1_2 0).f2⟩ : S25)]) := ⟨_, rfl⟩
                                replace H : (if 1 ≤ (x0_2.length : Int) then (if 1 ≤ (x1_2.length : Int) then (points_Merge.l0 kj41 (x0_2.drop 1) (x1_2.drop 1) y205) else (none)) else (none)) = some (r1, r2) := by first | (rw [hy205]; with_reducible exact H) | (have H2_ := (Option.bind_some _ _).symm.trans H; rw [hy205]; with_reducible exact H2_) | (have H2_ := (Option.bind_some _ _).symm.trans H; with_reducible exact H2_) | with_reducible exact H | (rw [hy205]; exact H) | exact H
                                have Ny205 := Aside0.mk hy205
                                clear hy205
                                by_cases c63 : 1 ≤ (x0_2.length : Int)
                                rotate_left
                                · rw [if_neg c63] at H
                                  exact absurd H (by simp)
                                rw [if_pos c63] at H
                                have c63b0 := eq_true c63
                                have c63b1 : decide (1 ≤ (x0_2.length : Int)) = true := decide_eq_true c63
                                clear c63
                                obtain ⟨y208, hy208⟩ : ∃ y_ : List (S25), y_ = (x0_2.drop 1) := ⟨_, rfl⟩
                                replace H : (if 1 ≤ (x1_2.length : Int) then (points_Merge.l0 kj41 y208 (x1_2.drop 1) y205) else (none)) = some (r1, r2) := by first | (rw [hy208]; with_reducible exact H) | (have H2_ := (Option.bind_some _ _).symm.trans H; rw [hy208]; with_reducible exact H2_) | (have H2_ := (Option.bind_some _ _).symm.trans H; with_reducible exact H2_) | with_reducible exact H | (rw [hy208]; exact H) | exact H
                                have Ny208 := Aside0.mk hy208
                                clear hy208
                                by_cases c64 : 1 ≤ (x1_2.length : Int)
                                rotate_left
                                · rw [if_neg c64] at H
                                  exact absurd H (by simp)
                                rw [if_pos c64] at H
                                have c64b0 := eq_true c64
                                have c64b1 : decide (1 ≤ (x1_2.length : Int)) = true := decide_eq_true c64
                                clear c64
                                obtain ⟨y213, hy213⟩ : ∃ y_ : List (S25), y_ = (x1_2.drop 1) := ⟨_, rfl⟩
                                replace H : (points_Merge.l0 kj41 y208 y213 y205) = some (r1, r2) := by first | (rw [hy213]; with_reducible exact H) | (have H2_ := (Option.bind_some _ _).symm.trans H; rw [hy213]; with_reducible exact H2_) | (have H2_ := (Option.bind_some _ _).symm.trans H; with_reducible exact H2_) | with_reducible exact H | (rw [hy213]; exact H) | exact H
                                have Ny213 := Aside0.mk hy213
                                clear hy213
                                have H' := Aside0.mk H
                                clear H
                                obtain ⟨Ao65, co65, eo65⟩ := Kd.V_slice HO_0.out
                                subst eo65
                                have p200 : 0 ≤ (0 : Int) := (by omega)
                                have q200 : 0 < (x0_2.length : Int) := of_decide_eq_true (by first | (with_reducible assumption) | assumption)
                                obtain ⟨ad200, e200, hx200_0, hx200_1, hx200_2⟩ := at_T25 (Kd.V_reads' HO_0.out).2.2 0 p200 q200
                                cases e200
                                have qi200 : (0 < x0_2.length) = True := eq_true (by omega)
                                (try rw [show ((0 : Int)).toNat = 0 from rfl] at hx200_0)
                                (try rw [show 0 * 3 = 0 from rfl] at hx200_0)
                                (try rw [Addr.add_zero'] at hx200_0)
                                (try rw [show ((0 : Int)).toNat = 0 from rfl] at hx200_1)
                                (try rw [show 0 * 3 = 0 from rfl] at hx200_1)
                                (try rw [Addr.add_zero'] at hx200_1)
                                (try rw [show ((0 : Int)).toNat = 0 from rfl] at hx200_2)
                                (try rw [show 0 * 3 = 0 from rfl] at hx200_2)
                                (try rw [Addr.add_zero'] at hx200_2)
                                replace p200 := eq_true p200
                                replace q200 := eq_true q200
                                try go_wp2_with (first | ((with_reducible refine gate_dst (N := 7) rfl ?_); (try (refine gate_guard (by rfl) ?_; dsimp only)); refine box_event ?hg (N := 7) ?hd (cs := #[.int .i64 0, .int .u64 0, .int .u64 0]) (t := 25) ?hr ?_; (case hd => rfl); (case hg => rfl); (case hr => first | (go_simp; done) | (go_simp; rfl)); intro gb201 hg w66 hbox hb; have n0_ := Aside0.mk (Kd.V_below (Kd.V_elderB (by (with_reducible repeat (first | apply Kd.V_alloc | apply Kd.V_drewN | apply Kd.V_drew)); exact HO_0.out) gb201 (Nat.le_of_eq hg.symm)) hb); have n1_ := Aside0.mk (Kd.V_below (Kd.V_elderB (by (with_reducible repeat (first | apply Kd.V_alloc | apply Kd.V_drewN | apply Kd.V_drew)); exact HO_1.out) gb201 (Nat.le_of_eq hg.symm)) hb); have n2_ := Aside0.mk (Kd.R_below (Kd.R_elderB (by (with_reducible repeat (first | apply Kd.R_alloc | apply Kd.R_drewN | apply Kd.R_drew)); exact HO_6.out) gb201 (Nat.le_of_eq hg.symm)) hb); have n3_ := Aside0.mk (below_step (by repeat (first | (with_reducible first | exact HB.out | apply below_alloc | apply pw_below_drewN | apply below_drew1) | exact HB.out)) hb); have n4_ := Aside0.mk (hbox); have n5_ := Aside0.mk ((by rw [hg]; exact (below_size (by repeat (first | (with_reducible first | exact HB.out | apply below_alloc | apply pw_below_drewN | apply below_drew1) | exact HB.out))) : w.heap.size ≤ gb201)); have n6_ := Aside0.mk ((by rw [hg]; exact (below_size (by repeat (first | (with_reducible first | exact HB.out | apply below_alloc | apply pw_below_drewN | apply below_drew1) | exact HB.out))) : w.heap.size ≤ gb201)); clear HO_0; clear HO_1; clear HO_6; clear HB; have HO_0 := n0_; have HO_1 := n1_; have HO_6 := n2_; have HB := n3_; have BK201 := n4_; have GW201 := n5_; have GE201 := n6_; clear n0_ n1_ n2_ n3_ n4_ n5_ n6_; clear hb hbox hg; have hcz67_0 : w66.cell? ⟨gb201, 0, none⟩ = some (.int .i64 0) := (blk_cell BK201.out 0).trans rfl; have hcz67_1 : w66.cell? ⟨gb201, 1, none⟩ = some (.int .u64 0) := (blk_cell BK201.out 1).trans rfl; have hcz67_2 : w66.cell? ⟨gb201, 2, none⟩ = some (.int .u64 0) := (blk_cell BK201.out 2).trans rfl; have hfz67_0 := blk_frozen BK201.out 0; have hfz67_1 := blk_frozen BK201.out 1; have hfz67_2 := blk_frozen BK201.out 2))
                                have n0_ : Aside0 (Kd.V k25 25 (((w66.setCell ⟨gb201, 0, none⟩ (.int .i64 ((rd_T25 x0_2 0).f0))).setCell ⟨gb201, 1, none⟩ (.int .u64 ((rd_T25 x0_2 0).f1))).setCell ⟨gb201, 2, none⟩ (.int .u64 ((rd_T25 x0_2 0).f2))) w.heap.size (fun k_ => ((P0_ k_ ∨ P1_ k_) ∨ w.heap.size ≤ k_) ∧ some k_ ≠ (u6 : Value).ownBlock ∧ k_ ≠ gb201) (.slice (some ad200) x0_2.length co65) x0_2) := ⟨by (with_reducible repeat (first | apply Kd.V_alloc | apply Kd.V_drewN | apply Kd.V_drew)); exact Kd.V_mono (Kd.V_far (p := ⟨gb201, 2, none⟩) (Kd.V_far (p := ⟨gb201, 1, none⟩) (Kd.V_far (p := ⟨gb201, 0, none⟩) (Kd.V_mono HO_0.out (fun k_ hk => (⟨hk, hk.2⟩ : _ ∧ k_ ≠ gb201))) (fun _ hk => hk.2) (.int .i64 ((rd_T25 x0_2 0).f0))) (fun _ hk => hk.2) (.int .u64 ((rd_T25 x0_2 0).f1))) (fun _ hk => hk.2) (.int .u64 ((rd_T25 x0_2 0).f2))) (fun _ hk => ⟨hk.1.1.1, ⟨hk.1.1.2, hk.1.2⟩⟩)⟩
                                have n1_ : Aside0 (Kd.V k25 25 (((w66.setCell ⟨gb201, 0, none⟩ (.int .i64 ((rd_T25 x0_2 0).f0))).setCell ⟨gb201, 1, none⟩ (.int .u64 ((rd_T25 x0_2 0).f1))).setCell ⟨gb201, 2, none⟩ (.int .u64 ((rd_T25 x0_2 0).f2))) w.heap.size (fun k_ => ((P0_ k_ ∨ P1_ k_) ∨ w.heap.size ≤ k_) ∧ some k_ ≠ (u6 : Value).ownBlock ∧ k_ ≠ gb201) u1 x1_2) := ⟨by (with_reducible repeat (first | apply Kd.V_alloc | apply Kd.V_drewN | apply Kd.V_drew)); exact Kd.V_mono (Kd.V_far (p := ⟨gb201, 2, none⟩) (Kd.V_far (p := ⟨gb201, 1, none⟩) (Kd.V_far (p := ⟨gb201, 0, none⟩) (Kd.V_mono HO_1.out (fun k_ hk => (⟨hk, hk.2⟩ : _ ∧ k_ ≠ gb201))) (fun _ hk => hk.2) (.int .i64 ((rd_T25 x0_2 0).f0))) (fun _ hk => hk.2) (.int .u64 ((rd_T25 x0_2 0).f1))) (fun _ hk => hk.2) (.int .u64 ((rd_T25 x0_2 0).f2))) (fun _ hk => ⟨hk.1.1.1, ⟨hk.1.1.2, hk.1.2⟩⟩)⟩
                                have n2_ : Aside0 (Kd.R k25 25 (((w66.setCell ⟨gb201, 0, none⟩ (.int .i64 ((rd_T25 x0_2 0).f0))).setCell ⟨gb201, 1, none⟩ (.int .u64 ((rd_T25 x0_2 0).f1))).setCell ⟨gb201, 2, none⟩ (.int .u64 ((rd_T25 x0_2 0).f2))) w.heap.size (fun k_ => (w.heap.size ≤ k_) ∧ k_ ≠ gb201) u6 x6_2) := ⟨by (with_reducible repeat (first | apply Kd.R_alloc | apply Kd.R_drewN | apply Kd.R_drew)); exact Kd.R_mono (Kd.R_far (p := ⟨gb201, 2, none⟩) (Kd.R_far (p := ⟨gb201, 1, none⟩) (Kd.R_far (p := ⟨gb201, 0, none⟩) (Kd.R_mono HO_6.out (fun k_ hk => (⟨hk, hk.2⟩ : _ ∧ k_ ≠ gb201))) (fun _ hk => hk.2) (.int .i64 ((rd_T25 x0_2 0).f0))) (fun _ hk => hk.2) (.int .u64 ((rd_T25 x0_2 0).f1))) (fun _ hk => hk.2) (.int .u64 ((rd_T25 x0_2 0).f2))) (fun _ hk => ⟨hk.1.1, hk.1.2⟩)⟩
                                have n3_ : Aside0 ((((w66.setCell ⟨gb201, 0, none⟩ (.int .i64 ((rd_T25 x0_2 0).f0))).setCell ⟨gb201, 1, none⟩ (.int .u64 ((rd_T25 x0_2 0).f1))).setCell ⟨gb201, 2, none⟩ (.int .u64 ((rd_T25 x0_2 0).f2))).heap[gb201]? = some (.cells #[.int .i64 ((rd_T25 x0_2 0).f0), .int .u64 ((rd_T25 x0_2 0).f1), .int .u64 ((rd_T25 x0_2 0).f2)] 25 (0, 0))) := ⟨by (with_reducible repeat (first | refine blk_drewN ?_ _ | refine blk_drew ?_ | refine blk_alloc ?_ _)); refine blk_put (cs := #[.int .i64 ((rd_T25 x0_2 0).f0), .int .u64 ((rd_T25 x0_2 0).f1), .int .u64 0]) ?_ 2 _ rfl; (with_reducible repeat (first | refine blk_drewN ?_ _ | refine blk_drew ?_ | refine blk_alloc ?_ _)); refine blk_put (cs := #[.int .i64 ((rd_T25 x0_2 0).f0), .int .u64 0, .int .u64 0]) ?_ 1 _ rfl; (with_reducible repeat (first | refine blk_drewN ?_ _ | refine blk_drew ?_ | refine blk_alloc ?_ _)); refine blk_put (cs := #[.int .i64 0, .int .u64 0, .int .u64 0]) ?_ 0 _ rfl; (with_reducible repeat (first | refine blk_drewN ?_ _ | refine blk_drew ?_ | refine blk_alloc ?_ _)); exact BK201.out⟩
                                have n4_ : Aside0 (Below w.heap.size w (((w66.setCell ⟨gb201, 0, none⟩ (.int .i64 ((rd_T25 x0_2 0).f0))).setCell ⟨gb201, 1, none⟩ (.int .u64 ((rd_T25 x0_2 0).f1))).setCell ⟨gb201, 2, none⟩ (.int .u64 ((rd_T25 x0_2 0).f2)))) := ⟨by repeat (first | (with_reducible first | exact HB.out | apply below_alloc | apply pw_below_drewN | apply below_drew1 | refine below_set ?_ GE201.out) | exact HB.out)⟩
                                (try clear HO_0)
                                (try clear HO_1)
                                (try clear HO_6)
                                (try clear BK201)
                                (try clear HB)
                                generalize (((w66.setCell ⟨gb201, 0, none⟩ (.int .i64 ((rd_T25 x0_2 0).f0))).setCell ⟨gb201, 1, none⟩ (.int .u64 ((rd_T25 x0_2 0).f1))).setCell ⟨gb201, 2, none⟩ (.int .u64 ((rd_T25 x0_2 0).f2))) = w68 at n0_ n1_ n2_ n3_ n4_ ⊢
                                have HO_0 := n0_
                                have HO_1 := n1_
                                have HO_6 := n2_
                                have BK201 := n3_
                                have HB := n4_
                                clear n0_ n1_ n2_ n3_ n4_
                                have n0_ := Aside0.mk (Kd.V_drew HO_0.out)
                                have n1_ := Aside0.mk (Kd.V_drew HO_1.out)
                                have n2_ := Aside0.mk (Kd.R_drew HO_6.out)
                                have n3_ := Aside0.mk (blk_drew BK201.out)
                                have n4_ := Aside0.mk (below_drew1 HB.out)
                                clear HO_0
                                clear HO_1
                                clear HO_6
                                clear BK201
                                clear HB
                                have HO_0 := n0_
                                have HO_1 := n1_
                                have HO_6 := n2_
                                have BK201 := n3_
                                have HB := n4_
                                clear n0_ n1_ n2_ n3_ n4_
                                obtain ⟨Ao70, co70, eo70⟩ := Kd.V_slice HO_1.out
                                (first | subst eo70 | (injection eo70 with f1_ f2_ f3_; have f4_ := f1_.symm; have f5_ := f3_.symm; clear f1_ f2_ f3_; subst f4_; subst f5_))
                                have p202 : 0 ≤ (0 : Int) := (by omega)
                                have q202 : 0 < (x1_2.length : Int) := of_decide_eq_true (by first | (with_reducible assumption) | assumption)
                                obtain ⟨ad202, e202, hx202_0, hx202_1, hx202_2⟩ := at_T25 (Kd.V_reads' HO_1.out).2.2 0 p202 q202
                                cases e202
                                have qi202 : (0 < x1_2.length) = True := eq_true (by omega)
                                (try rw [show ((0 : Int)).toNat = 0 from rfl] at hx202_0)
                                (try rw [show 0 * 3 = 0 from rfl] at hx202_0)
                                (try rw [Addr.add_zero'] at hx202_0)
                                (try rw [show ((0 : Int)).toNat = 0 from rfl] at hx202_1)
                                (try rw [show 0 * 3 = 0 from rfl] at hx202_1)
                                (try rw [Addr.add_zero'] at hx202_1)
                                (try rw [show ((0 : Int)).toNat = 0 from rfl] at hx202_2)
                                (try rw [show 0 * 3 = 0 from rfl] at hx202_2)
                                (try rw [Addr.add_zero'] at hx202_2)
                                replace p202 := eq_true p202
                                replace q202 := eq_true q202
                                refine start_ (n := 5) (S := fun w' => w'.cell? ⟨gb201, 0, none⟩ = some (.int .i64 ((rd_T25 x0_2 0).f0)) ∧ w'.cell? ⟨gb201, 1, none⟩ = some (.int .u64 ((rd_T25 x0_2 0).f1)) ∧ w'.cell? ⟨gb201, 2, none⟩ = some (.int .u64 ((rd_T25 x0_2 0).f2)) ∧ w'.cell? ad202 = some (.int .i64 ((rd_T25 x1_2 0).f0)) ∧ w'.cell? ⟨ad202.block, ad202.off + 1, none⟩ = some (.int .u64 ((rd_T25 x1_2 0).f1)) ∧ w'.cell? ⟨ad202.block, ad202.off + 2, none⟩ = some (.int .u64 ((rd_T25 x1_2 0).f2))) (ds := []) #[false, false, false, false, false] (by kernel_rfl) rfl rfl ⟨(blk_cell BK201.out 0).trans rfl, (blk_cell BK201.out 1).trans rfl, (blk_cell BK201.out 2).trans rfl, hx202_0, hx202_1, hx202_2⟩ (fun hHeld => ?_)
                                generalize w68.drew = w69 at HO_0 HO_1 HO_6 BK201 HB hx202_0 hx202_1 hx202_2 hHeld ⊢
                                refine pure_ (i := 0) (N := some 33) (v := ?_) (a' := ?_) #[true, false, false, false, false] rfl rfl (by kernel_rfl) (fun _ _ _ h => h) (Or.inl ⟨by rfl, ?_⟩) ?_ ?_
                                rotate_left
                                · intro w'
                                  go_simp
                                  with_reducible rfl
                                rotate_left
                                · simp only [Act.put, List.setIfInBounds_toArray, List.set_cons_zero, List.set_cons_succ, i64_w, i32_w, xu32_w, xu8_w]
                                  rfl
                                refine pure_ (i := 1) (N := some 34) (v := ?_) (a' := ?_) #[true, true, false, false, false] rfl rfl (by kernel_rfl) (fun _ _ _ h => h) (Or.inl ⟨by rfl, ?_⟩) ?_ ?_
                                rotate_left
                                · intro w'
                                  go_simp
                                  with_reducible rfl
                                rotate_left
                                · simp only [Act.put, List.setIfInBounds_toArray, List.set_cons_zero, List.set_cons_succ, i64_w, i32_w, xu32_w, xu8_w]
                                  rfl
                                refine take_ (i := 2) (N := some 35) (v := ?_) (a' := ?_) #[true, true, true, false, false] rfl rfl (by kernel_rfl) (fun _ _ _ h => h) (Or.inl ⟨by rfl, ?_⟩) hHeld ?_ ?_
                                rotate_left
                                · rintro w' ⟨s0, s1, s2, s3, s4, s5⟩
                                  go_simp
                                  with_reducible rfl
                                rotate_left
                                · simp only [Act.put, List.setIfInBounds_toArray, List.set_cons_zero, List.set_cons_succ, i64_w, i32_w, xu32_w, xu8_w]
                                  rfl
                                refine take_ (i := 3) (N := some 36) (v := ?_) (a' := ?_) #[true, true, true, true, false] rfl rfl (by kernel_rfl) (fun _ _ _ h => h) (Or.inl ⟨by rfl, ?_⟩) hHeld ?_ ?_
                                rotate_left
                                · rintro w' ⟨s0, s1, s2, s3, s4, s5⟩
                                  go_simp
                                  with_reducible rfl
                                rotate_left
                                · simp only [Act.put, List.setIfInBounds_toArray, List.set_cons_zero, List.set_cons_succ, i64_w, i32_w, xu32_w, xu8_w]
                                  rfl
                                refine one_ (i := 4) (N := some 37) #[true, true, true, true, true] rfl rfl (by kernel_rfl) (by decide) (fun K hK => ?_)
                                refine goes_ Try.func16 (by kernel_rfl) rfl #[.agg #[.int .i64 ((rd_T25 x1_2 0).f0), .int .u64 ((rd_T25 x1_2 0).f1), .int .u64 ((rd_T25 x1_2 0).f2)], .agg #[.int .i64 ((rd_T25 x0_2 0).f0), .int .u64 ((rd_T25 x0_2 0).f1), .int .u64 ((rd_T25 x0_2 0).f2)]] (by rfl) rfl rfl (by (try simp only [List.map_toArray, List.map_cons, List.map_nil]); first | done | rfl | (simp only [List.length_drop, List.length_take]; rfl)) ?_
                                with_reducible refine (points_Ahead.calls ((rd_T25 x1_2 0).f0) ((rd_T25 x1_2 0).f1) ((rd_T25 x1_2 0).f2) ((rd_T25 x0_2 0).f0) ((rd_T25 x0_2 0).f1) ((rd_T25 x0_2 0).f2) true _ A60.out).mono ?_
                                rintro e w71 ⟨rfl, hb⟩
                                have HS3_ := (hb.cell (World.block_lt_of_cell? _ _ (hHeld.2.2.2.1))).trans (hHeld.2.2.2.1)
                                have HS4_ := (hb.cell (World.block_lt_of_cell? _ _ (hHeld.2.2.2.2.1))).trans (hHeld.2.2.2.2.1)
                                have HS5_ := (hb.cell (World.block_lt_of_cell? _ _ (hHeld.2.2.2.2.2))).trans (hHeld.2.2.2.2.2)
                                refine ⟨_, rfl, ?_⟩
                                have n0_ := Aside0.mk (Kd.V_below (by (with_reducible repeat (first | apply Kd.V_alloc | apply Kd.V_drewN | apply Kd.V_drew)); exact HO_0.out) hb)
                                have n1_ := Aside0.mk (Kd.V_below (by (with_reducible repeat (first | apply Kd.V_alloc | apply Kd.V_drewN | apply Kd.V_drew)); exact HO_1.out) hb)
                                have n2_ := Aside0.mk (Kd.R_below (by (with_reducible repeat (first | apply Kd.R_alloc | apply Kd.R_drewN | apply Kd.R_drew)); exact HO_6.out) hb)
                                have n3_ := Aside0.mk (blk_below (g := gb201) (o := .cells #[.int .i64 ((rd_T25 x0_2 0).f0), .int .u64 ((rd_T25 x0_2 0).f1), .int .u64 ((rd_T25 x0_2 0).f2)] 25 (0, 0)) (by (with_reducible repeat (first | refine blk_drewN ?_ _ | refine blk_drew ?_ | refine blk_alloc ?_ _)); exact BK201.out) hb)
                                have n4_ := Aside0.mk (below_step (by repeat (first | (with_reducible first | exact HB.out | apply below_alloc | apply pw_below_drewN | apply below_drew1 | refine below_set ?_ GE201.out) | exact HB.out)) hb)
                                clear HO_0
                                clear HO_1
                                clear HO_6
                                clear BK201
                                clear HB
                                have HO_0 := n0_
                                have HO_1 := n1_
                                have HO_6 := n2_
                                have BK201 := n3_
                                have HB := n4_
                                clear n0_ n1_ n2_ n3_ n4_
                                (try clear hb)
                                (try clear hb2)
                                (try clear hk)
                                (try clear hi)
                                refine hK.out _ _ ⟨(blk_cell BK201.out 0).trans rfl, (blk_cell BK201.out 1).trans rfl, (blk_cell BK201.out 2).trans rfl, HS3_, HS4_, HS5_⟩ (fun hHeld => ?_)
                                clear hK K
                                refine norm_ (a' := ?_) ?_ ?_
                                rotate_left
                                · show Act.put _ (some 37) _ = _
                                  simp only [Act.put, List.setIfInBounds_toArray, List.set_cons_zero, List.set_cons_succ, i64_w, i32_w, xu32_w, xu8_w]
                                  rfl
                                refine done_ (by kernel_rfl) ?_
                                have p204 : 0 ≤ (0 : Int) := (by omega)
                                have q204 : 0 < (x1_2.length : Int) := of_decide_eq_true (by first | (with_reducible assumption) | assumption)
                                obtain ⟨ad204, e204, hx204_0, hx204_1, hx204_2⟩ := at_T25 (Kd.V_reads' HO_1.out).2.2 0 p204 q204
                                obtain rfl : ad202 = ad204 := (by injection e204)
                                have qi204 : (0 < x1_2.length) = True := eq_true (by omega)
                                (try rw [show ((0 : Int)).toNat = 0 from rfl] at hx204_0)
                                (try rw [show 0 * 3 = 0 from rfl] at hx204_0)
                                (try rw [Addr.add_zero'] at hx204_0)
                                (try rw [show ((0 : Int)).toNat = 0 from rfl] at hx204_1)
                                (try rw [show 0 * 3 = 0 from rfl] at hx204_1)
                                (try rw [Addr.add_zero'] at hx204_1)
                                (try rw [show ((0 : Int)).toNat = 0 from rfl] at hx204_2)
                                (try rw [show 0 * 3 = 0 from rfl] at hx204_2)
                                (try rw [Addr.add_zero'] at hx204_2)
                                replace p204 := eq_true p204
                                replace q204 := eq_true q204
                                have hcz72_0 : w71.cell? ⟨gb201, 0, none⟩ = some (.int .i64 ((rd_T25 x0_2 0).f0)) := (blk_cell BK201.out 0).trans rfl
                                have hcz72_1 : w71.cell? ⟨gb201, 1, none⟩ = some (.int .u64 ((rd_T25 x0_2 0).f1)) := (blk_cell BK201.out 1).trans rfl
                                have hcz72_2 : w71.cell? ⟨gb201, 2, none⟩ = some (.int .u64 ((rd_T25 x0_2 0).f2)) := (blk_cell BK201.out 2).trans rfl
                                have hfz72_0 := blk_frozen BK201.out 0
                                have hfz72_1 := blk_frozen BK201.out 1
                                have hfz72_2 := blk_frozen BK201.out 2
                                try go_wp2_with (first | ((with_reducible refine gate_builtin (b := .append) (xs := #[.tmp 41, .tmp 43]) rfl ?_); (try (refine gate_guard (by rfl) ?_; dsimp only)); at_builtin; refine Kd.R_append k25 (w0 := w) w.heap.size rfl (.tmp 41) (.tmp 43) 22 25 (.agg #[(.int .i64 0), (.int .u64 0), (.int .u64 0)]) 24 rfl Try.underlying22 info25 rfl (by decide) (by omega) u6 x6_2 (⟨(rd_T25 x1_2 0).f0, (rd_T25 x1_2 0).f1, (rd_T25 x1_2 0).f2⟩ : S25) [.int .i64 ((rd_T25 x1_2 0).f0), .int .u64 ((rd_T25 x1_2 0).f1), .int .u64 ((rd_T25 x1_2 0).f2)] (fun k_ => (w.heap.size ≤ k_) ∧ k_ ≠ gb201) (fun _ => False) rfl (by first | (go_simp; done) | (go_simp; rfl)) ?aP (fun _ hk => hk.elim) ?aF ?aO ?aB ?aS ?aL ?_; (case aP => exact k25_mkM _ _ _ (⟨(rd_T25 x1_2 0).f0, (rd_T25 x1_2 0).f1, (rd_T25 x1_2 0).f2⟩ : S25)); (case aB => exact (by repeat (first | (with_reducible first | exact HB.out | apply below_alloc | apply pw_below_drewN | apply below_drew1 | refine below_set ?_ GE201.out) | exact HB.out))); (case aF => exact (fun k_ hk => ⟨(Nat.le_trans (below_size (by repeat (first | (with_reducible first | exact HB.out | apply below_alloc | apply pw_below_drewN | apply below_drew1 | refine below_set ?_ GE201.out) | exact HB.out))) hk), Kd.freshB (g := gb201) (o := .cells #[.int .i64 ((rd_T25 x1_2 0).f0), .int .u64 ((rd_T25 x1_2 0).f1), .int .u64 ((rd_T25 x1_2 0).f2)] 25 (0, 0)) (by (with_reducible repeat (first | refine blk_drewN ?_ _ | refine blk_drew ?_ | refine blk_alloc ?_ _)); refine blk_put (cs := #[.int .i64 ((rd_T25 x1_2 0).f0), .int .u64 ((rd_T25 x1_2 0).f1), .int .u64 ((rd_T25 x0_2 0).f2)]) ?_ 2 _ rfl; (with_reducible repeat (first | refine blk_drewN ?_ _ | refine blk_drew ?_ | refine blk_alloc ?_ _)); refine blk_put (cs := #[.int .i64 ((rd_T25 x1_2 0).f0), .int .u64 ((rd_T25 x0_2 0).f1), .int .u64 ((rd_T25 x0_2 0).f2)]) ?_ 1 _ rfl; (with_reducible repeat (first | refine blk_drewN ?_ _ | refine blk_drew ?_ | refine blk_alloc ?_ _)); refine blk_put (cs := #[.int .i64 ((rd_T25 x0_2 0).f0), .int .u64 ((rd_T25 x0_2 0).f1), .int .u64 ((rd_T25 x0_2 0).f2)]) ?_ 0 _ rfl; (with_reducible repeat (first | refine blk_drewN ?_ _ | refine blk_drew ?_ | refine blk_alloc ?_ _)); exact BK201.out) k_ hk⟩)); (case aO => exact (by (with_reducible repeat (first | apply Kd.R_alloc | apply Kd.R_drewN | apply Kd.R_drew)); exact Kd.R_mono (Kd.R_far (p := ⟨gb201, 2, none⟩) (Kd.R_far (p := ⟨gb201, 1, none⟩) (Kd.R_far (p := ⟨gb201, 0, none⟩) (Kd.R_mono HO_6.out (fun k_ hk => (⟨hk, hk.2⟩ : _ ∧ k_ ≠ gb201))) (fun _ hk => hk.2) (.int .i64 ((rd_T25 x1_2 0).f0))) (fun _ hk => hk.2) (.int .u64 ((rd_T25 x1_2 0).f1))) (fun _ hk => hk.2) (.int .u64 ((rd_T25 x1_2 0).f2))) (fun _ hk => ⟨hk.1.1, hk.1.2⟩))); (case aS => exact (below_size (by repeat (first | (with_reducible first | exact HB.out | apply below_alloc | apply pw_below_drewN | apply below_drew1 | refine below_set ?_ GE201.out) | exact HB.out)))); (case aL => have := LMc62.out; omega); intro v206 w73 ho hb hg hat; rw [← Ny205.out] at ho; have n0_ := Aside0.mk (Kd.V_afterv (ok := (fun k_ => ((P0_ k_ ∨ P1_ k_) ∨ w.heap.size ≤ k_) ∧ k_ ≠ gb201)) (by (with_reducible repeat (first | apply Kd.V_alloc | apply Kd.V_drewN | apply Kd.V_drew)); exact Kd.V_mono (Kd.V_far (p := ⟨gb201, 2, none⟩) (Kd.V_far (p := ⟨gb201, 1, none⟩) (Kd.V_far (p := ⟨gb201, 0, none⟩) (Kd.V_mono HO_0.out (fun k_ hk => (⟨hk, hk.2.2⟩ : _ ∧ k_ ≠ gb201))) (fun _ hk => hk.2) (.int .i64 ((rd_T25 x1_2 0).f0))) (fun _ hk => hk.2) (.int .u64 ((rd_T25 x1_2 0).f1))) (fun _ hk => hk.2) (.int .u64 ((rd_T25 x1_2 0).f2))) (fun _ hk => ⟨⟨hk.1.1, hk.1.2.2⟩, hk.1.2.1⟩)) hg hat); have n1_ := Aside0.mk (Kd.V_afterv (ok := (fun k_ => ((P0_ k_ ∨ P1_ k_) ∨ w.heap.size ≤ k_) ∧ k_ ≠ gb201)) (by (with_reducible repeat (first | apply Kd.V_alloc | apply Kd.V_drewN | apply Kd.V_drew)); exact Kd.V_mono (Kd.V_far (p := ⟨gb201, 2, none⟩) (Kd.V_far (p := ⟨gb201, 1, none⟩) (Kd.V_far (p := ⟨gb201, 0, none⟩) (Kd.V_mono HO_1.out (fun k_ hk => (⟨hk, hk.2.2⟩ : _ ∧ k_ ≠ gb201))) (fun _ hk => hk.2) (.int .i64 ((rd_T25 x1_2 0).f0))) (fun _ hk => hk.2) (.int .u64 ((rd_T25 x1_2 0).f1))) (fun _ hk => hk.2) (.int .u64 ((rd_T25 x1_2 0).f2))) (fun _ hk => ⟨⟨hk.1.1, hk.1.2.2⟩, hk.1.2.1⟩)) hg hat); have n2_ := Aside0.mk (blk_grown (g := gb201) (o := .cells #[.int .i64 ((rd_T25 x1_2 0).f0), .int .u64 ((rd_T25 x1_2 0).f1), .int .u64 ((rd_T25 x1_2 0).f2)] 25 (0, 0)) (by (with_reducible repeat (first | refine blk_drewN ?_ _ | refine blk_drew ?_ | refine blk_alloc ?_ _)); refine blk_put (cs := #[.int .i64 ((rd_T25 x1_2 0).f0), .int .u64 ((rd_T25 x1_2 0).f1), .int .u64 ((rd_T25 x0_2 0).f2)]) ?_ 2 _ rfl; (with_reducible repeat (first | refine blk_drewN ?_ _ | refine blk_drew ?_ | refine blk_alloc ?_ _)); refine blk_put (cs := #[.int .i64 ((rd_T25 x1_2 0).f0), .int .u64 ((rd_T25 x0_2 0).f1), .int .u64 ((rd_T25 x0_2 0).f2)]) ?_ 1 _ rfl; (with_reducible repeat (first | refine blk_drewN ?_ _ | refine blk_drew ?_ | refine blk_alloc ?_ _)); refine blk_put (cs := #[.int .i64 ((rd_T25 x0_2 0).f0), .int .u64 ((rd_T25 x0_2 0).f1), .int .u64 ((rd_T25 x0_2 0).f2)]) ?_ 0 _ rfl; (with_reducible repeat (first | refine blk_drewN ?_ _ | refine blk_drew ?_ | refine blk_alloc ?_ _)); exact BK201.out) hg (Kd.R_away HO_6.out (fun _ hk => hk.2))); have n3_ := Aside0.mk (hb); have n4_ := Aside0.mk (ho); clear HO_0; clear HO_1; clear BK201; clear HB; clear HO_6; have HO_0 := n0_; have HO_1 := n1_; have BK201 := n2_; have HB := n3_; have HO207 := n4_; clear n0_ n1_ n2_ n3_ n4_; clear ho hb hg hat))
                                have n0_ := Aside0.mk (Kd.V_drew HO_0.out)
                                have n1_ := Aside0.mk (Kd.V_drew HO_1.out)
                                have n2_ := Aside0.mk (Kd.R_drew HO207.out)
                                have n3_ := Aside0.mk (blk_drew BK201.out)
                                have n4_ := Aside0.mk (below_drew1 HB.out)
                                clear HO_0
                                clear HO_1
                                clear HO207
                                clear BK201
                                clear HB
                                have HO_0 := n0_
                                have HO_1 := n1_
                                have HO207 := n2_
                                have BK201 := n3_
                                have HB := n4_
                                clear n0_ n1_ n2_ n3_ n4_
                                have q75 : (1 : Int) ≤ ((x0_2.length : Int) : Int) := of_decide_eq_true (by first | (with_reducible assumption) | assumption)
                                obtain ⟨i075, hi075, _, hsz75, _⟩ := info_parts info25
                                have hroom75 : x0_2.length ≤ co65 := (Kd.V_reads' HO_0.out).2.1
                                have hC75 : Kd.F k25 _ _ (some ad200) x0_2.length x0_2 := (Kd.V_at (base := w.heap.size) HO_0.out).2.2
                                have hcut75 := cut_from (P := Try.prog) 22 25 .i64 Try.underlying22 hi075 3 hsz75 (some ad200) x0_2.length co65 1 (by omega) q75
                                have hr75 := Kd.F_cut (m := (1 : Int).toNat) (c := co65) hC75 (by omega) hroom75
                                obtain ⟨A75, hA75⟩ : ∃ A1, A1 = (if co65 = (1 : Int).toNat then (some ad200) else ((some ad200) : Option Addr).map (·.add ((1 : Int).toNat * 3))) := ⟨_, rfl⟩
                                obtain ⟨c75, hc75⟩ : ∃ c1, c1 = co65 - (1 : Int).toNat := ⟨_, rfl⟩
                                have hy75 : y208.length = x0_2.length - (1 : Int).toNat := (by rw [Ny208.out, List.length_drop] <;> omega)
                                rw [show (x0_2).drop (1 : Int).toNat = y208 from Ny208.out.symm] at hr75
                                replace hr75 : Kd.F k25 _ _ A75 y208.length y208 := (by rw [hA75]; exact hr75)
                                rw [← hy75, ← hA75, ← hc75] at hcut75
                                have HO212 := Aside0.mk (show Kd.V k25 25 _ w.heap.size _ (.slice A75 y208.length c75) y208 from Kd.V_mk (by rw [hy75, hc75]; exact Nat.sub_le_sub_right hroom75 _) hr75)
                                have HC212 := Aside0.mk (show y208.length ≤ c75 from by rw [hy75, hc75]; exact Nat.sub_le_sub_right hroom75 _)
                                clear hr75 hC75 hroom75 hi075 hsz75 hc75
                                have KY75 := Aside0.mk hy75
                                have KA75 := Aside0.mk hA75
                                clear hy75 hA75
                                replace q75 := eq_true q75
                                have q76 : (1 : Int) ≤ ((x1_2.length : Int) : Int) := of_decide_eq_true (by first | (with_reducible assumption) | assumption)
                                obtain ⟨i076, hi076, _, hsz76, _⟩ := info_parts info25
                                have hroom76 : x1_2.length ≤ co70 := (Kd.V_reads' HO_1.out).2.1
                                have hC76 : Kd.F k25 _ _ (some ad202) x1_2.length x1_2 := (Kd.V_at (base := w.heap.size) HO_1.out).2.2
                                have hcut76 := cut_from (P := Try.prog) 22 25 .i64 Try.underlying22 hi076 3 hsz76 (some ad202) x1_2.length co70 1 (by omega) q76
                                have hr76 := Kd.F_cut (m := (1 : Int).toNat) (c := co70) hC76 (by omega) hroom76
                                obtain ⟨A76, hA76⟩ : ∃ A1, A1 = (if co70 = (1 : Int).toNat then (some ad202) else ((some ad202) : Option Addr).map (·.add ((1 : Int).toNat * 3))) := ⟨_, rfl⟩
                                obtain ⟨c76, hc76⟩ : ∃ c1, c1 = co70 - (1 : Int).toNat := ⟨_, rfl⟩
                                have hy76 : y213.length = x1_2.length - (1 : Int).toNat := (by rw [Ny213.out, List.length_drop] <;> omega)
                                rw [show (x1_2).drop (1 : Int).toNat = y213 from Ny213.out.symm] at hr76
                                replace hr76 : Kd.F k25 _ _ A76 y213.length y213 := (by rw [hA76]; exact hr76)
                                rw [← hy76, ← hA76, ← hc76] at hcut76
                                have HO217 := Aside0.mk (show Kd.V k25 25 _ w.heap.size _ (.slice A76 y213.length c76) y213 from Kd.V_mk (by rw [hy76, hc76]; exact Nat.sub_le_sub_right hroom76 _) hr76)
                                have HC217 := Aside0.mk (show y213.length ≤ c76 from by rw [hy76, hc76]; exact Nat.sub_le_sub_right hroom76 _)
                                clear hr76 hC76 hroom76 hi076 hsz76 hc76
                                have KY76 := Aside0.mk hy76
                                have KA76 := Aside0.mk hA76
                                clear hy76 hA76
                                replace q76 := eq_true q76
                                refine start_ (n := 6) (S := fun w' => True) (ds := []) #[false, false, false, false, false, false] (by kernel_rfl) rfl rfl trivial (fun hHeld => ?_)
                                generalize w73.drew = w74 at HO_0 HO_1 HO207 BK201 HB HO212 HO217 hHeld ⊢
                                refine pure_ (i := 0) (N := some 45) (v := ?_) (a' := ?_) #[true, false, false, false, false, false] rfl rfl (by kernel_rfl) (fun _ _ _ h => h) (Or.inl ⟨by rfl, ?_⟩) ?_ ?_
                                rotate_left
                                · intro w'
                                  go_simp
                                  with_reducible rfl
                                rotate_left
                                · simp only [Act.put, List.setIfInBounds_toArray, List.set_cons_zero, List.set_cons_succ, i64_w, i32_w, xu32_w, xu8_w]
                                  rfl
                                refine pure_ (i := 1) (N := some 46) (v := ?_) (a' := ?_) #[true, true, false, false, false, false] rfl rfl (by kernel_rfl) (fun _ _ _ h => h) (Or.inl ⟨by rfl, ?_⟩) ?_ ?_
                                rotate_left
                                · intro w'
                                  go_simp
                                  with_reducible rfl
                                rotate_left
                                · simp only [Act.put, List.setIfInBounds_toArray, List.set_cons_zero, List.set_cons_succ, i64_w, i32_w, xu32_w, xu8_w]
                                  rfl
                                refine pure_ (i := 2) (N := some 47) (v := ?_) (a' := ?_) #[true, true, true, false, false, false] rfl rfl (by kernel_rfl) (fun _ _ _ h => h) (Or.inl ⟨by rfl, ?_⟩) ?_ ?_
                                rotate_left
                                · intro w'
                                  go_simp
                                  with_reducible rfl
                                rotate_left
                                · simp only [Act.put, List.setIfInBounds_toArray, List.set_cons_zero, List.set_cons_succ, i64_w, i32_w, xu32_w, xu8_w]
                                  rfl
                                refine pure_ (i := 3) (N := some 48) (v := ?_) (a' := ?_) #[true, true, true, true, false, false] rfl rfl (by kernel_rfl) (fun _ _ _ h => h) (Or.inl ⟨by rfl, ?_⟩) ?_ ?_
                                rotate_left
                                · intro w'
                                  go_simp
                                  with_reducible rfl
                                rotate_left
                                · simp only [Act.put, List.setIfInBounds_toArray, List.set_cons_zero, List.set_cons_succ, i64_w, i32_w, xu32_w, xu8_w]
                                  rfl
                                refine pure_ (i := 4) (N := some 0) (v := ?_) (a' := ?_) #[true, true, true, true, true, false] rfl rfl (by kernel_rfl) (fun _ _ _ h => h) (Or.inl ⟨by rfl, ?_⟩) ?_ ?_
                                rotate_left
                                · intro w'
                                  go_simp
                                  with_reducible rfl
                                rotate_left
                                · simp only [Act.put, List.setIfInBounds_toArray, List.set_cons_zero, List.set_cons_succ, i64_w, i32_w, xu32_w, xu8_w]
                                  rfl
                                refine pure_ (i := 5) (N := some 1) (v := ?_) (a' := ?_) #[true, true, true, true, true, true] rfl rfl (by kernel_rfl) (fun _ _ _ h => h) (Or.inl ⟨by rfl, ?_⟩) ?_ ?_
                                rotate_left
                                · intro w'
                                  go_simp
                                  with_reducible rfl
                                rotate_left
                                · simp only [Act.put, List.setIfInBounds_toArray, List.set_cons_zero, List.set_cons_succ, i64_w, i32_w, xu32_w, xu8_w]
                                  rfl
                                refine done_ (by kernel_rfl) ?_
                                try go_wp2
                                go_roundg kj41
                                case measure => have := HJ2.out; have := HK2.out; have := HJ15.out; have := HJ21.out; have := HJ41.out; omega
                                case rel => exact ⟨(y208), (y213), (y205), H', ⟨by have := HJ2.out; have := HK2.out; have := HJ15.out; have := HJ21.out; have := HJ41.out; omega⟩, ⟨by (with_reducible repeat (first | apply Kd.V_alloc | apply Kd.V_drewN | apply Kd.V_drew)); exact Kd.V_mono HO212.out (fun _ hk => ⟨hk.1.1, hk.2⟩)⟩, ⟨by (with_reducible repeat (first | apply Kd.V_alloc | apply Kd.V_drewN | apply Kd.V_drew)); exact Kd.V_mono HO217.out (fun _ hk => ⟨hk.1.1, hk.2⟩)⟩, ⟨by (with_reducible repeat (first | apply Kd.R_alloc | apply Kd.R_drewN | apply Kd.R_drew)); exact Kd.R_mono HO207.out (fun _ hk => hk.1)⟩, ⟨by repeat (first | (with_reducible first | exact HB.out | apply below_alloc | apply pw_below_drewN | apply below_drew1 | refine below_set ?_ GE201.out) | exact HB.out)⟩⟩
                              · replace c61 := Bool.eq_false_iff.mpr c61
                                subst c61
                                have H1 : (if x6_2.length < 5864062014805 then (if 1 ≤ (x0_2.length : Int) then (if 1 ≤ (x1_2.length : Int) then (points_Merge.l0 kj41 (x0_2.drop 1) (x1_2.drop 1) (x6_2 ++ [(⟨(rd_T25 x0_2 0).f0, (rd_T25 x0_2 0).f1, (rd_T25 x0_2 0).f2⟩ : S25)])) else (none)) else (none)) else (none)) = some (r1, r2) := by rw [if_neg (show ¬ (false = true) by decide)] at H; exact H
                                clear H
                                have H := H1
                                clear H1
                                by_cases c77 : x6_2.length < 5864062014805
                                rotate_left
                                · rw [if_neg c77] at H
                                  exact absurd H (by simp)
                                rw [if_pos c77] at H
                                have LMc77 := Aside0.mk c77
                                clear c77
                                obtain ⟨y218, hy218⟩ : ∃ y_ : List (S25), y_ = (x6_2 ++ [(⟨(rd_T25 x0_2 0).f0, (rd_T25 x0_2 0).f1, (rd_T25 x0_2 0).f2⟩ : S25)]) := ⟨_, rfl⟩
                                replace H : (if 1 ≤ (x0_2.length : Int) then (if 1 ≤ (x1_2.length : Int) then (points_Merge.l0 kj41 (x0_2.drop 1) (x1_2.drop 1) y218) else (none)) else (none)) = some (r1, r2) := by first | (rw [hy218]; with_reducible exact H) | (have H2_ := (Option.bind_some _ _).symm.trans H; rw [hy218]; with_reducible exact H2_) | (have H2_ := (Option.bind_some _ _).symm.trans H; with_reducible exact H2_) | with_reducible exact H | (rw [hy218]; exact H) | exact H
                                have Ny218 := Aside0.mk hy218
                                clear hy218
                                by_cases c78 : 1 ≤ (x0_2.length : Int)
                                rotate_left
                                · rw [if_neg c78] at H
                                  exact absurd H (by simp)
                                rw [if_pos c78] at H
                                have c78b0 := eq_true c78
                                have c78b1 : decide (1 ≤ (x0_2.length : Int)) = true := decide_eq_true c78
                                clear c78
                                obtain ⟨y221, hy221⟩ : ∃ y_ : List (S25), y_ = (x0_2.drop 1) := ⟨_, rfl⟩
                                replace H : (if 1 ≤ (x1_2.length : Int) then (points_Merge.l0 kj41 y221 (x1_2.drop 1) y218) else (none)) = some (r1, r2) := by first | (rw [hy221]; with_reducible exact H) | (have H2_ := (Option.bind_some _ _).symm.trans H; rw [hy221]; with_reducible exact H2_) | (have H2_ := (Option.bind_some _ _).symm.trans H; with_reducible exact H2_) | with_reducible exact H | (rw [hy221]; exact H) | exact H
                                have Ny221 := Aside0.mk hy221
                                clear hy221
                                by_cases c79 : 1 ≤ (x1_2.length : Int)
                                rotate_left
                                · rw [if_neg c79] at H
                                  exact absurd H (by simp)
                                rw [if_pos c79] at H
                                have c79b0 := eq_true c79
                                have c79b1 : decide (1 ≤ (x1_2.length : Int)) = true := decide_eq_true c79
                                clear c79
                                obtain ⟨y226, hy226⟩ : ∃ y_ : List (S25), y_ = (x1_2.drop 1) := ⟨_, rfl⟩
                                replace H : (points_Merge.l0 kj41 y221 y226 y218) = some (r1, r2) := by first | (rw [hy226]; with_reducible exact H) | (have H2_ := (Option.bind_some _ _).symm.trans H; rw [hy226]; with_reducible exact H2_) | (have H2_ := (Option.bind_some _ _).symm.trans H; with_reducible exact H2_) | with_reducible exact H | (rw [hy226]; exact H) | exact H
                                have Ny226 := Aside0.mk hy226
                                clear hy226
                                have H' := Aside0.mk H
                                clear H
                                obtain ⟨Ao80, co80, eo80⟩ := Kd.V_slice HO_0.out
                                subst eo80
                                have p200 : 0 ≤ (0 : Int) := (by omega)
                                have q200 : 0 < (x0_2.length : Int) := of_decide_eq_true (by first | (with_reducible assumption) | assumption)
                                obtain ⟨ad200, e200, hx200_0, hx200_1, hx200_2⟩ := at_T25 (Kd.V_reads' HO_0.out).2.2 0 p200 q200
                                cases e200
                                have qi200 : (0 < x0_2.length) = True := eq_true (by omega)
                                (try rw [show ((0 : Int)).toNat = 0 from rfl] at hx200_0)
                                (try rw [show 0 * 3 = 0 from rfl] at hx200_0)
                                (try rw [Addr.add_zero'] at hx200_0)
                                (try rw [show ((0 : Int)).toNat = 0 from rfl] at hx200_1)
                                (try rw [show 0 * 3 = 0 from rfl] at hx200_1)
                                (try rw [Addr.add_zero'] at hx200_1)
                                (try rw [show ((0 : Int)).toNat = 0 from rfl] at hx200_2)
                                (try rw [show 0 * 3 = 0 from rfl] at hx200_2)
                                (try rw [Addr.add_zero'] at hx200_2)
                                replace p200 := eq_true p200
                                replace q200 := eq_true q200
                                try go_wp2_with (first | ((with_reducible refine gate_dst (N := 7) rfl ?_); (try (refine gate_guard (by rfl) ?_; dsimp only)); refine box_event ?hg (N := 7) ?hd (cs := #[.int .i64 0, .int .u64 0, .int .u64 0]) (t := 25) ?hr ?_; (case hd => rfl); (case hg => rfl); (case hr => first | (go_simp; done) | (go_simp; rfl)); intro gb201 hg w81 hbox hb; have n0_ := Aside0.mk (Kd.V_below (Kd.V_elderB (by (with_reducible repeat (first | apply Kd.V_alloc | apply Kd.V_drewN | apply Kd.V_drew)); exact HO_0.out) gb201 (Nat.le_of_eq hg.symm)) hb); have n1_ := Aside0.mk (Kd.V_below (Kd.V_elderB (by (with_reducible repeat (first | apply Kd.V_alloc | apply Kd.V_drewN | apply Kd.V_drew)); exact HO_1.out) gb201 (Nat.le_of_eq hg.symm)) hb); have n2_ := Aside0.mk (Kd.R_below (Kd.R_elderB (by (with_reducible repeat (first | apply Kd.R_alloc | apply Kd.R_drewN | apply Kd.R_drew)); exact HO_6.out) gb201 (Nat.le_of_eq hg.symm)) hb); have n3_ := Aside0.mk (below_step (by repeat (first | (with_reducible first | exact HB.out | apply below_alloc | apply pw_below_drewN | apply below_drew1) | exact HB.out)) hb); have n4_ := Aside0.mk (hbox); have n5_ := Aside0.mk ((by rw [hg]; exact (below_size (by repeat (first | (with_reducible first | exact HB.out | apply below_alloc | apply pw_below_drewN | apply below_drew1) | exact HB.out))) : w.heap.size ≤ gb201)); have n6_ := Aside0.mk ((by rw [hg]; exact (below_size (by repeat (first | (with_reducible first | exact HB.out | apply below_alloc | apply pw_below_drewN | apply below_drew1) | exact HB.out))) : w.heap.size ≤ gb201)); clear HO_0; clear HO_1; clear HO_6; clear HB; have HO_0 := n0_; have HO_1 := n1_; have HO_6 := n2_; have HB := n3_; have BK201 := n4_; have GW201 := n5_; have GE201 := n6_; clear n0_ n1_ n2_ n3_ n4_ n5_ n6_; clear hb hbox hg; have hcz82_0 : w81.cell? ⟨gb201, 0, none⟩ = some (.int .i64 0) := (blk_cell BK201.out 0).trans rfl; have hcz82_1 : w81.cell? ⟨gb201, 1, none⟩ = some (.int .u64 0) := (blk_cell BK201.out 1).trans rfl; have hcz82_2 : w81.cell? ⟨gb201, 2, none⟩ = some (.int .u64 0) := (blk_cell BK201.out 2).trans rfl; have hfz82_0 := blk_frozen BK201.out 0; have hfz82_1 := blk_frozen BK201.out 1; have hfz82_2 := blk_frozen BK201.out 2))
                                have n0_ : Aside0 (Kd.V k25 25 (((w81.setCell ⟨gb201, 0, none⟩ (.int .i64 ((rd_T25 x0_2 0).f0))).setCell ⟨gb201, 1, none⟩ (.int .u64 ((rd_T25 x0_2 0).f1))).setCell ⟨gb201, 2, none⟩ (.int .u64 ((rd_T25 x0_2 0).f2))) w.heap.size (fun k_ => ((P0_ k_ ∨ P1_ k_) ∨ w.heap.size ≤ k_) ∧ some k_ ≠ (u6 : Value).ownBlock ∧ k_ ≠ gb201) (.slice (some ad200) x0_2.length co80) x0_2) := ⟨by (with_reducible repeat (first | apply Kd.V_alloc | apply Kd.V_drewN | apply Kd.V_drew)); exact Kd.V_mono (Kd.V_far (p := ⟨gb201, 2, none⟩) (Kd.V_far (p := ⟨gb201, 1, none⟩) (Kd.V_far (p := ⟨gb201, 0, none⟩) (Kd.V_mono HO_0.out (fun k_ hk => (⟨hk, hk.2⟩ : _ ∧ k_ ≠ gb201))) (fun _ hk => hk.2) (.int .i64 ((rd_T25 x0_2 0).f0))) (fun _ hk => hk.2) (.int .u64 ((rd_T25 x0_2 0).f1))) (fun _ hk => hk.2) (.int .u64 ((rd_T25 x0_2 0).f2))) (fun _ hk => ⟨hk.1.1.1, ⟨hk.1.1.2, hk.1.2⟩⟩)⟩
                                have n1_ : Aside0 (Kd.V k25 25 (((w81.setCell ⟨gb201, 0, none⟩ (.int .i64 ((rd_T25 x0_2 0).f0))).setCell ⟨gb201, 1, none⟩ (.int .u64 ((rd_T25 x0_2 0).f1))).setCell ⟨gb201, 2, none⟩ (.int .u64 ((rd_T25 x0_2 0).f2))) w.heap.size (fun k_ => ((P0_ k_ ∨ P1_ k_) ∨ w.heap.size ≤ k_) ∧ some k_ ≠ (u6 : Value).ownBlock ∧ k_ ≠ gb201) u1 x1_2) := ⟨by (with_reducible repeat (first | apply Kd.V_alloc | apply Kd.V_drewN | apply Kd.V_drew)); exact Kd.V_mono (Kd.V_far (p := ⟨gb201, 2, none⟩) (Kd.V_far (p := ⟨gb201, 1, none⟩) (Kd.V_far (p := ⟨gb201, 0, none⟩) (Kd.V_mono HO_1.out (fun k_ hk => (⟨hk, hk.2⟩ : _ ∧ k_ ≠ gb201))) (fun _ hk => hk.2) (.int .i64 ((rd_T25 x0_2 0).f0))) (fun _ hk => hk.2) (.int .u64 ((rd_T25 x0_2 0).f1))) (fun _ hk => hk.2) (.int .u64 ((rd_T25 x0_2 0).f2))) (fun _ hk => ⟨hk.1.1.1, ⟨hk.1.1.2, hk.1.2⟩⟩)⟩
                                have n2_ : Aside0 (Kd.R k25 25 (((w81.setCell ⟨gb201, 0, none⟩ (.int .i64 ((rd_T25 x0_2 0).f0))).setCell ⟨gb201, 1, none⟩ (.int .u64 ((rd_T25 x0_2 0).f1))).setCell ⟨gb201, 2, none⟩ (.int .u64 ((rd_T25 x0_2 0).f2))) w.heap.size (fun k_ => (w.heap.size ≤ k_) ∧ k_ ≠ gb201) u6 x6_2) := ⟨by (with_reducible repeat (first | apply Kd.R_alloc | apply Kd.R_drewN | apply Kd.R_drew)); exact Kd.R_mono (Kd.R_far (p := ⟨gb201, 2, none⟩) (Kd.R_far (p := ⟨gb201, 1, none⟩) (Kd.R_far (p := ⟨gb201, 0, none⟩) (Kd.R_mono HO_6.out (fun k_ hk => (⟨hk, hk.2⟩ : _ ∧ k_ ≠ gb201))) (fun _ hk => hk.2) (.int .i64 ((rd_T25 x0_2 0).f0))) (fun _ hk => hk.2) (.int .u64 ((rd_T25 x0_2 0).f1))) (fun _ hk => hk.2) (.int .u64 ((rd_T25 x0_2 0).f2))) (fun _ hk => ⟨hk.1.1, hk.1.2⟩)⟩
                                have n3_ : Aside0 ((((w81.setCell ⟨gb201, 0, none⟩ (.int .i64 ((rd_T25 x0_2 0).f0))).setCell ⟨gb201, 1, none⟩ (.int .u64 ((rd_T25 x0_2 0).f1))).setCell ⟨gb201, 2, none⟩ (.int .u64 ((rd_T25 x0_2 0).f2))).heap[gb201]? = some (.cells #[.int .i64 ((rd_T25 x0_2 0).f0), .int .u64 ((rd_T25 x0_2 0).f1), .int .u64 ((rd_T25 x0_2 0).f2)] 25 (0, 0))) := ⟨by (with_reducible repeat (first | refine blk_drewN ?_ _ | refine blk_drew ?_ | refine blk_alloc ?_ _)); refine blk_put (cs := #[.int .i64 ((rd_T25 x0_2 0).f0), .int .u64 ((rd_T25 x0_2 0).f1), .int .u64 0]) ?_ 2 _ rfl; (with_reducible repeat (first | refine blk_drewN ?_ _ | refine blk_drew ?_ | refine blk_alloc ?_ _)); refine blk_put (cs := #[.int .i64 ((rd_T25 x0_2 0).f0), .int .u64 0, .int .u64 0]) ?_ 1 _ rfl; (with_reducible repeat (first | refine blk_drewN ?_ _ | refine blk_drew ?_ | refine blk_alloc ?_ _)); refine blk_put (cs := #[.int .i64 0, .int .u64 0, .int .u64 0]) ?_ 0 _ rfl; (with_reducible repeat (first | refine blk_drewN ?_ _ | refine blk_drew ?_ | refine blk_alloc ?_ _)); exact BK201.out⟩
                                have n4_ : Aside0 (Below w.heap.size w (((w81.setCell ⟨gb201, 0, none⟩ (.int .i64 ((rd_T25 x0_2 0).f0))).setCell ⟨gb201, 1, none⟩ (.int .u64 ((rd_T25 x0_2 0).f1))).setCell ⟨gb201, 2, none⟩ (.int .u64 ((rd_T25 x0_2 0).f2)))) := ⟨by repeat (first | (with_reducible first | exact HB.out | apply below_alloc | apply pw_below_drewN | apply below_drew1 | refine below_set ?_ GE201.out) | exact HB.out)⟩
                                (try clear HO_0)
                                (try clear HO_1)
                                (try clear HO_6)
                                (try clear BK201)
                                (try clear HB)
                                generalize (((w81.setCell ⟨gb201, 0, none⟩ (.int .i64 ((rd_T25 x0_2 0).f0))).setCell ⟨gb201, 1, none⟩ (.int .u64 ((rd_T25 x0_2 0).f1))).setCell ⟨gb201, 2, none⟩ (.int .u64 ((rd_T25 x0_2 0).f2))) = w83 at n0_ n1_ n2_ n3_ n4_ ⊢
                                have HO_0 := n0_
                                have HO_1 := n1_
                                have HO_6 := n2_
                                have BK201 := n3_
                                have HB := n4_
                                clear n0_ n1_ n2_ n3_ n4_
                                have n0_ := Aside0.mk (Kd.V_drew HO_0.out)
                                have n1_ := Aside0.mk (Kd.V_drew HO_1.out)
                                have n2_ := Aside0.mk (Kd.R_drew HO_6.out)
                                have n3_ := Aside0.mk (blk_drew BK201.out)
                                have n4_ := Aside0.mk (below_drew1 HB.out)
                                clear HO_0
                                clear HO_1
                                clear HO_6
                                clear BK201
                                clear HB
                                have HO_0 := n0_
                                have HO_1 := n1_
                                have HO_6 := n2_
                                have BK201 := n3_
                                have HB := n4_
                                clear n0_ n1_ n2_ n3_ n4_
                                obtain ⟨Ao85, co85, eo85⟩ := Kd.V_slice HO_1.out
                                (first | subst eo85 | (injection eo85 with f1_ f2_ f3_; have f4_ := f1_.symm; have f5_ := f3_.symm; clear f1_ f2_ f3_; subst f4_; subst f5_))
                                have p202 : 0 ≤ (0 : Int) := (by omega)
                                have q202 : 0 < (x1_2.length : Int) := of_decide_eq_true (by first | (with_reducible assumption) | assumption)
                                obtain ⟨ad202, e202, hx202_0, hx202_1, hx202_2⟩ := at_T25 (Kd.V_reads' HO_1.out).2.2 0 p202 q202
                                cases e202
                                have qi202 : (0 < x1_2.length) = True := eq_true (by omega)
                                (try rw [show ((0 : Int)).toNat = 0 from rfl] at hx202_0)
                                (try rw [show 0 * 3 = 0 from rfl] at hx202_0)
                                (try rw [Addr.add_zero'] at hx202_0)
                                (try rw [show ((0 : Int)).toNat = 0 from rfl] at hx202_1)
                                (try rw [show 0 * 3 = 0 from rfl] at hx202_1)
                                (try rw [Addr.add_zero'] at hx202_1)
                                (try rw [show ((0 : Int)).toNat = 0 from rfl] at hx202_2)
                                (try rw [show 0 * 3 = 0 from rfl] at hx202_2)
                                (try rw [Addr.add_zero'] at hx202_2)
                                replace p202 := eq_true p202
                                replace q202 := eq_true q202
                                refine start_ (n := 5) (S := fun w' => w'.cell? ⟨gb201, 0, none⟩ = some (.int .i64 ((rd_T25 x0_2 0).f0)) ∧ w'.cell? ⟨gb201, 1, none⟩ = some (.int .u64 ((rd_T25 x0_2 0).f1)) ∧ w'.cell? ⟨gb201, 2, none⟩ = some (.int .u64 ((rd_T25 x0_2 0).f2)) ∧ w'.cell? ad202 = some (.int .i64 ((rd_T25 x1_2 0).f0)) ∧ w'.cell? ⟨ad202.block, ad202.off + 1, none⟩ = some (.int .u64 ((rd_T25 x1_2 0).f1)) ∧ w'.cell? ⟨ad202.block, ad202.off + 2, none⟩ = some (.int .u64 ((rd_T25 x1_2 0).f2))) (ds := []) #[false, false, false, false, false] (by kernel_rfl) rfl rfl ⟨(blk_cell BK201.out 0).trans rfl, (blk_cell BK201.out 1).trans rfl, (blk_cell BK201.out 2).trans rfl, hx202_0, hx202_1, hx202_2⟩ (fun hHeld => ?_)
                                generalize w83.drew = w84 at HO_0 HO_1 HO_6 BK201 HB hx202_0 hx202_1 hx202_2 hHeld ⊢
                                refine pure_ (i := 0) (N := some 33) (v := ?_) (a' := ?_) #[true, false, false, false, false] rfl rfl (by kernel_rfl) (fun _ _ _ h => h) (Or.inl ⟨by rfl, ?_⟩) ?_ ?_
                                rotate_left
                                · intro w'
                                  go_simp
                                  with_reducible rfl
                                rotate_left
                                · simp only [Act.put, List.setIfInBounds_toArray, List.set_cons_zero, List.set_cons_succ, i64_w, i32_w, xu32_w, xu8_w]
                                  rfl
                                refine pure_ (i := 1) (N := some 34) (v := ?_) (a' := ?_) #[true, true, false, false, false] rfl rfl (by kernel_rfl) (fun _ _ _ h => h) (Or.inl ⟨by rfl, ?_⟩) ?_ ?_
                                rotate_left
                                · intro w'
                                  go_simp
                                  with_reducible rfl
                                rotate_left
                                · simp only [Act.put, List.setIfInBounds_toArray, List.set_cons_zero, List.set_cons_succ, i64_w, i32_w, xu32_w, xu8_w]
                                  rfl
                                refine take_ (i := 2) (N := some 35) (v := ?_) (a' := ?_) #[true, true, true, false, false] rfl rfl (by kernel_rfl) (fun _ _ _ h => h) (Or.inl ⟨by rfl, ?_⟩) hHeld ?_ ?_
                                rotate_left
                                · rintro w' ⟨s0, s1, s2, s3, s4, s5⟩
                                  go_simp
                                  with_reducible rfl
                                rotate_left
                                · simp only [Act.put, List.setIfInBounds_toArray, List.set_cons_zero, List.set_cons_succ, i64_w, i32_w, xu32_w, xu8_w]
                                  rfl
                                refine take_ (i := 3) (N := some 36) (v := ?_) (a' := ?_) #[true, true, true, true, false] rfl rfl (by kernel_rfl) (fun _ _ _ h => h) (Or.inl ⟨by rfl, ?_⟩) hHeld ?_ ?_
                                rotate_left
                                · rintro w' ⟨s0, s1, s2, s3, s4, s5⟩
                                  go_simp
                                  with_reducible rfl
                                rotate_left
                                · simp only [Act.put, List.setIfInBounds_toArray, List.set_cons_zero, List.set_cons_succ, i64_w, i32_w, xu32_w, xu8_w]
                                  rfl
                                refine one_ (i := 4) (N := some 37) #[true, true, true, true, true] rfl rfl (by kernel_rfl) (by decide) (fun K hK => ?_)
                                refine goes_ Try.func16 (by kernel_rfl) rfl #[.agg #[.int .i64 ((rd_T25 x1_2 0).f0), .int .u64 ((rd_T25 x1_2 0).f1), .int .u64 ((rd_T25 x1_2 0).f2)], .agg #[.int .i64 ((rd_T25 x0_2 0).f0), .int .u64 ((rd_T25 x0_2 0).f1), .int .u64 ((rd_T25 x0_2 0).f2)]] (by rfl) rfl rfl (by (try simp only [List.map_toArray, List.map_cons, List.map_nil]); first | done | rfl | (simp only [List.length_drop, List.length_take]; rfl)) ?_
                                with_reducible refine (points_Ahead.calls ((rd_T25 x1_2 0).f0) ((rd_T25 x1_2 0).f1) ((rd_T25 x1_2 0).f2) ((rd_T25 x0_2 0).f0) ((rd_T25 x0_2 0).f1) ((rd_T25 x0_2 0).f2) false _ A60.out).mono ?_
                                rintro e w86 ⟨rfl, hb⟩
                                have HS3_ := (hb.cell (World.block_lt_of_cell? _ _ (hHeld.2.2.2.1))).trans (hHeld.2.2.2.1)
                                have HS4_ := (hb.cell (World.block_lt_of_cell? _ _ (hHeld.2.2.2.2.1))).trans (hHeld.2.2.2.2.1)
                                have HS5_ := (hb.cell (World.block_lt_of_cell? _ _ (hHeld.2.2.2.2.2))).trans (hHeld.2.2.2.2.2)
                                refine ⟨_, rfl, ?_⟩
                                have n0_ := Aside0.mk (Kd.V_below (by (with_reducible repeat (first | apply Kd.V_alloc | apply Kd.V_drewN | apply Kd.V_drew)); exact HO_0.out) hb)
                                have n1_ := Aside0.mk (Kd.V_below (by (with_reducible repeat (first | apply Kd.V_alloc | apply Kd.V_drewN | apply Kd.V_drew)); exact HO_1.out) hb)
                                have n2_ := Aside0.mk (Kd.R_below (by (with_reducible repeat (first | apply Kd.R_alloc | apply Kd.R_drewN | apply Kd.R_drew)); exact HO_6.out) hb)
                                have n3_ := Aside0.mk (blk_below (g := gb201) (o := .cells #[.int .i64 ((rd_T25 x0_2 0).f0), .int .u64 ((rd_T25 x0_2 0).f1), .int .u64 ((rd_T25 x0_2 0).f2)] 25 (0, 0)) (by (with_reducible repeat (first | refine blk_drewN ?_ _ | refine blk_drew ?_ | refine blk_alloc ?_ _)); exact BK201.out) hb)
                                have n4_ := Aside0.mk (below_step (by repeat (first | (with_reducible first | exact HB.out | apply below_alloc | apply pw_below_drewN | apply below_drew1 | refine below_set ?_ GE201.out) | exact HB.out)) hb)
                                clear HO_0
                                clear HO_1
                                clear HO_6
                                clear BK201
                                clear HB
                                have HO_0 := n0_
                                have HO_1 := n1_
                                have HO_6 := n2_
                                have BK201 := n3_
                                have HB := n4_
                                clear n0_ n1_ n2_ n3_ n4_
                                (try clear hb)
                                (try clear hb2)
                                (try clear hk)
                                (try clear hi)
                                refine hK.out _ _ ⟨(blk_cell BK201.out 0).trans rfl, (blk_cell BK201.out 1).trans rfl, (blk_cell BK201.out 2).trans rfl, HS3_, HS4_, HS5_⟩ (fun hHeld => ?_)
                                clear hK K
                                refine norm_ (a' := ?_) ?_ ?_
                                rotate_left
                                · show Act.put _ (some 37) _ = _
                                  simp only [Act.put, List.setIfInBounds_toArray, List.set_cons_zero, List.set_cons_succ, i64_w, i32_w, xu32_w, xu8_w]
                                  rfl
                                refine done_ (by kernel_rfl) ?_
                                have hcz87_0 : w86.cell? ⟨gb201, 0, none⟩ = some (.int .i64 ((rd_T25 x0_2 0).f0)) := (blk_cell BK201.out 0).trans rfl
                                have hcz87_1 : w86.cell? ⟨gb201, 1, none⟩ = some (.int .u64 ((rd_T25 x0_2 0).f1)) := (blk_cell BK201.out 1).trans rfl
                                have hcz87_2 : w86.cell? ⟨gb201, 2, none⟩ = some (.int .u64 ((rd_T25 x0_2 0).f2)) := (blk_cell BK201.out 2).trans rfl
                                have hfz87_0 := blk_frozen BK201.out 0
                                have hfz87_1 := blk_frozen BK201.out 1
                                have hfz87_2 := blk_frozen BK201.out 2
                                try go_wp2_with (first | ((with_reducible refine gate_builtin (b := .append) (xs := #[.tmp 41, .tmp 43]) rfl ?_); (try (refine gate_guard (by rfl) ?_; dsimp only)); at_builtin; refine Kd.R_append k25 (w0 := w) w.heap.size rfl (.tmp 41) (.tmp 43) 22 25 (.agg #[(.int .i64 0), (.int .u64 0), (.int .u64 0)]) 24 rfl Try.underlying22 info25 rfl (by decide) (by omega) u6 x6_2 (⟨(rd_T25 x0_2 0).f0, (rd_T25 x0_2 0).f1, (rd_T25 x0_2 0).f2⟩ : S25) [.int .i64 ((rd_T25 x0_2 0).f0), .int .u64 ((rd_T25 x0_2 0).f1), .int .u64 ((rd_T25 x0_2 0).f2)] (fun k_ => (w.heap.size ≤ k_) ∧ k_ ≠ gb201) (fun _ => False) rfl rfl ?aP (fun _ hk => hk.elim) ?aF ?aO ?aB ?aS ?aL ?_; (case aP => exact k25_mkM _ _ _ (⟨(rd_T25 x0_2 0).f0, (rd_T25 x0_2 0).f1, (rd_T25 x0_2 0).f2⟩ : S25)); (case aB => exact (by repeat (first | (with_reducible first | exact HB.out | apply below_alloc | apply pw_below_drewN | apply below_drew1 | refine below_set ?_ GE201.out) | exact HB.out))); (case aF => exact (fun k_ hk => ⟨(Nat.le_trans (below_size (by repeat (first | (with_reducible first | exact HB.out | apply below_alloc | apply pw_below_drewN | apply below_drew1 | refine below_set ?_ GE201.out) | exact HB.out))) hk), Kd.freshB (g := gb201) (o := .cells #[.int .i64 ((rd_T25 x0_2 0).f0), .int .u64 ((rd_T25 x0_2 0).f1), .int .u64 ((rd_T25 x0_2 0).f2)] 25 (0, 0)) (by (with_reducible repeat (first | refine blk_drewN ?_ _ | refine blk_drew ?_ | refine blk_alloc ?_ _)); exact BK201.out) k_ hk⟩)); (case aO => exact (by (with_reducible repeat (first | apply Kd.R_alloc | apply Kd.R_drewN | apply Kd.R_drew)); exact HO_6.out)); (case aS => exact (below_size (by repeat (first | (with_reducible first | exact HB.out | apply below_alloc | apply pw_below_drewN | apply below_drew1 | refine below_set ?_ GE201.out) | exact HB.out)))); (case aL => have := LMc77.out; omega); intro v219 w88 ho hb hg hat; rw [← Ny218.out] at ho; have n0_ := Aside0.mk (Kd.V_afterv (ok := (fun k_ => ((P0_ k_ ∨ P1_ k_) ∨ w.heap.size ≤ k_) ∧ k_ ≠ gb201)) (by (with_reducible repeat (first | apply Kd.V_alloc | apply Kd.V_drewN | apply Kd.V_drew)); exact Kd.V_mono HO_0.out (fun _ hk => ⟨⟨hk.1, hk.2.2⟩, hk.2.1⟩)) hg hat); have n1_ := Aside0.mk (Kd.V_afterv (ok := (fun k_ => ((P0_ k_ ∨ P1_ k_) ∨ w.heap.size ≤ k_) ∧ k_ ≠ gb201)) (by (with_reducible repeat (first | apply Kd.V_alloc | apply Kd.V_drewN | apply Kd.V_drew)); exact Kd.V_mono HO_1.out (fun _ hk => ⟨⟨hk.1, hk.2.2⟩, hk.2.1⟩)) hg hat); have n2_ := Aside0.mk (blk_grown (g := gb201) (o := .cells #[.int .i64 ((rd_T25 x0_2 0).f0), .int .u64 ((rd_T25 x0_2 0).f1), .int .u64 ((rd_T25 x0_2 0).f2)] 25 (0, 0)) (by (with_reducible repeat (first | refine blk_drewN ?_ _ | refine blk_drew ?_ | refine blk_alloc ?_ _)); exact BK201.out) hg (Kd.R_away HO_6.out (fun _ hk => hk.2))); have n3_ := Aside0.mk (hb); have n4_ := Aside0.mk (ho); clear HO_0; clear HO_1; clear BK201; clear HB; clear HO_6; have HO_0 := n0_; have HO_1 := n1_; have BK201 := n2_; have HB := n3_; have HO220 := n4_; clear n0_ n1_ n2_ n3_ n4_; clear ho hb hg hat))
                                have n0_ := Aside0.mk (Kd.V_drew HO_0.out)
                                have n1_ := Aside0.mk (Kd.V_drew HO_1.out)
                                have n2_ := Aside0.mk (Kd.R_drew HO220.out)
                                have n3_ := Aside0.mk (blk_drew BK201.out)
                                have n4_ := Aside0.mk (below_drew1 HB.out)
                                clear HO_0
                                clear HO_1
                                clear HO220
                                clear BK201
                                clear HB
                                have HO_0 := n0_
                                have HO_1 := n1_
                                have HO220 := n2_
                                have BK201 := n3_
                                have HB := n4_
                                clear n0_ n1_ n2_ n3_ n4_
                                have q90 : (1 : Int) ≤ ((x0_2.length : Int) : Int) := of_decide_eq_true (by first | (with_reducible assumption) | assumption)
                                obtain ⟨i090, hi090, _, hsz90, _⟩ := info_parts info25
                                have hroom90 : x0_2.length ≤ co80 := (Kd.V_reads' HO_0.out).2.1
                                have hC90 : Kd.F k25 _ _ (some ad200) x0_2.length x0_2 := (Kd.V_at (base := w.heap.size) HO_0.out).2.2
                                have hcut90 := cut_from (P := Try.prog) 22 25 .i64 Try.underlying22 hi090 3 hsz90 (some ad200) x0_2.length co80 1 (by omega) q90
                                have hr90 := Kd.F_cut (m := (1 : Int).toNat) (c := co80) hC90 (by omega) hroom90
                                obtain ⟨A90, hA90⟩ : ∃ A1, A1 = (if co80 = (1 : Int).toNat then (some ad200) else ((some ad200) : Option Addr).map (·.add ((1 : Int).toNat * 3))) := ⟨_, rfl⟩
                                obtain ⟨c90, hc90⟩ : ∃ c1, c1 = co80 - (1 : Int).toNat := ⟨_, rfl⟩
                                have hy90 : y221.length = x0_2.length - (1 : Int).toNat := (by rw [Ny221.out, List.length_drop] <;> omega)
                                rw [show (x0_2).drop (1 : Int).toNat = y221 from Ny221.out.symm] at hr90
                                replace hr90 : Kd.F k25 _ _ A90 y221.length y221 := (by rw [hA90]; exact hr90)
                                rw [← hy90, ← hA90, ← hc90] at hcut90
                                have HO225 := Aside0.mk (show Kd.V k25 25 _ w.heap.size _ (.slice A90 y221.length c90) y221 from Kd.V_mk (by rw [hy90, hc90]; exact Nat.sub_le_sub_right hroom90 _) hr90)
                                have HC225 := Aside0.mk (show y221.length ≤ c90 from by rw [hy90, hc90]; exact Nat.sub_le_sub_right hroom90 _)
                                clear hr90 hC90 hroom90 hi090 hsz90 hc90
                                have KY90 := Aside0.mk hy90
                                have KA90 := Aside0.mk hA90
                                clear hy90 hA90
                                replace q90 := eq_true q90
                                have q91 : (1 : Int) ≤ ((x1_2.length : Int) : Int) := of_decide_eq_true (by first | (with_reducible assumption) | assumption)
                                obtain ⟨i091, hi091, _, hsz91, _⟩ := info_parts info25
                                have hroom91 : x1_2.length ≤ co85 := (Kd.V_reads' HO_1.out).2.1
                                have hC91 : Kd.F k25 _ _ (some ad202) x1_2.length x1_2 := (Kd.V_at (base := w.heap.size) HO_1.out).2.2
                                have hcut91 := cut_from (P := Try.prog) 22 25 .i64 Try.underlying22 hi091 3 hsz91 (some ad202) x1_2.length co85 1 (by omega) q91
                                have hr91 := Kd.F_cut (m := (1 : Int).toNat) (c := co85) hC91 (by omega) hroom91
                                obtain ⟨A91, hA91⟩ : ∃ A1, A1 = (if co85 = (1 : Int).toNat then (some ad202) else ((some ad202) : Option Addr).map (·.add ((1 : Int).toNat * 3))) := ⟨_, rfl⟩
                                obtain ⟨c91, hc91⟩ : ∃ c1, c1 = co85 - (1 : Int).toNat := ⟨_, rfl⟩
                                have hy91 : y226.length = x1_2.length - (1 : Int).toNat := (by rw [Ny226.out, List.length_drop] <;> omega)
                                rw [show (x1_2).drop (1 : Int).toNat = y226 from Ny226.out.symm] at hr91
                                replace hr91 : Kd.F k25 _ _ A91 y226.length y226 := (by rw [hA91]; exact hr91)
                                rw [← hy91, ← hA91, ← hc91] at hcut91
                                have HO230 := Aside0.mk (show Kd.V k25 25 _ w.heap.size _ (.slice A91 y226.length c91) y226 from Kd.V_mk (by rw [hy91, hc91]; exact Nat.sub_le_sub_right hroom91 _) hr91)
                                have HC230 := Aside0.mk (show y226.length ≤ c91 from by rw [hy91, hc91]; exact Nat.sub_le_sub_right hroom91 _)
                                clear hr91 hC91 hroom91 hi091 hsz91 hc91
                                have KY91 := Aside0.mk hy91
                                have KA91 := Aside0.mk hA91
                                clear hy91 hA91
                                replace q91 := eq_true q91
                                refine start_ (n := 6) (S := fun w' => True) (ds := []) #[false, false, false, false, false, false] (by kernel_rfl) rfl rfl trivial (fun hHeld => ?_)
                                generalize w88.drew = w89 at HO_0 HO_1 HO220 BK201 HB HO225 HO230 hHeld ⊢
                                refine pure_ (i := 0) (N := some 45) (v := ?_) (a' := ?_) #[true, false, false, false, false, false] rfl rfl (by kernel_rfl) (fun _ _ _ h => h) (Or.inl ⟨by rfl, ?_⟩) ?_ ?_
                                rotate_left
                                · intro w'
                                  go_simp
                                  with_reducible rfl
                                rotate_left
                                · simp only [Act.put, List.setIfInBounds_toArray, List.set_cons_zero, List.set_cons_succ, i64_w, i32_w, xu32_w, xu8_w]
                                  rfl
                                refine pure_ (i := 1) (N := some 46) (v := ?_) (a' := ?_) #[true, true, false, false, false, false] rfl rfl (by kernel_rfl) (fun _ _ _ h => h) (Or.inl ⟨by rfl, ?_⟩) ?_ ?_
                                rotate_left
                                · intro w'
                                  go_simp
                                  with_reducible rfl
                                rotate_left
                                · simp only [Act.put, List.setIfInBounds_toArray, List.set_cons_zero, List.set_cons_succ, i64_w, i32_w, xu32_w, xu8_w]
                                  rfl
                                refine pure_ (i := 2) (N := some 47) (v := ?_) (a' := ?_) #[true, true, true, false, false, false] rfl rfl (by kernel_rfl) (fun _ _ _ h => h) (Or.inl ⟨by rfl, ?_⟩) ?_ ?_
                                rotate_left
                                · intro w'
                                  go_simp
                                  with_reducible rfl
                                rotate_left
                                · simp only [Act.put, List.setIfInBounds_toArray, List.set_cons_zero, List.set_cons_succ, i64_w, i32_w, xu32_w, xu8_w]
                                  rfl
                                refine pure_ (i := 3) (N := some 48) (v := ?_) (a' := ?_) #[true, true, true, true, false, false] rfl rfl (by kernel_rfl) (fun _ _ _ h => h) (Or.inl ⟨by rfl, ?_⟩) ?_ ?_
                                rotate_left
                                · intro w'
                                  go_simp
                                  with_reducible rfl
                                rotate_left
                                · simp only [Act.put, List.setIfInBounds_toArray, List.set_cons_zero, List.set_cons_succ, i64_w, i32_w, xu32_w, xu8_w]
                                  rfl
                                refine pure_ (i := 4) (N := some 0) (v := ?_) (a' := ?_) #[true, true, true, true, true, false] rfl rfl (by kernel_rfl) (fun _ _ _ h => h) (Or.inl ⟨by rfl, ?_⟩) ?_ ?_
                                rotate_left
                                · intro w'
                                  go_simp
                                  with_reducible rfl
                                rotate_left
                                · simp only [Act.put, List.setIfInBounds_toArray, List.set_cons_zero, List.set_cons_succ, i64_w, i32_w, xu32_w, xu8_w]
                                  rfl
                                refine pure_ (i := 5) (N := some 1) (v := ?_) (a' := ?_) #[true, true, true, true, true, true] rfl rfl (by kernel_rfl) (fun _ _ _ h => h) (Or.inl ⟨by rfl, ?_⟩) ?_ ?_
                                rotate_left
                                · intro w'
                                  go_simp
                                  with_reducible rfl
                                rotate_left
                                · simp only [Act.put, List.setIfInBounds_toArray, List.set_cons_zero, List.set_cons_succ, i64_w, i32_w, xu32_w, xu8_w]
                                  rfl
                                refine done_ (by kernel_rfl) ?_
                                try go_wp2
                                go_roundg kj41
                                case measure => have := HJ2.out; have := HK2.out; have := HJ15.out; have := HJ21.out; have := HJ41.out; omega
                                case rel => exact ⟨(y221), (y226), (y218), H', ⟨by have := HJ2.out; have := HK2.out; have := HJ15.out; have := HJ21.out; have := HJ41.out; omega⟩, ⟨by (with_reducible repeat (first | apply Kd.V_alloc | apply Kd.V_drewN | apply Kd.V_drew)); exact Kd.V_mono HO225.out (fun _ hk => ⟨hk.1.1, hk.2⟩)⟩, ⟨by (with_reducible repeat (first | apply Kd.V_alloc | apply Kd.V_drewN | apply Kd.V_drew)); exact Kd.V_mono HO230.out (fun _ hk => ⟨hk.1.1, hk.2⟩)⟩, ⟨by (with_reducible repeat (first | apply Kd.R_alloc | apply Kd.R_drewN | apply Kd.R_drew)); exact Kd.R_mono HO220.out (fun _ hk => hk.1)⟩, ⟨by repeat (first | (with_reducible first | exact HB.out | apply below_alloc | apply pw_below_drewN | apply below_drew1 | refine below_set ?_ GE201.out) | exact HB.out)⟩⟩
                · replace c21 := Bool.eq_false_iff.mpr c21
                  subst c21
                  have H1 : (if (x6_2.length : Int) > 65536 then (some (([] : List (S25)), 5)) else (some (x6_2, 0))) = some (r1, r2) := by rw [if_neg (show ¬ (false = true) by decide)] at H; exact H
                  clear H
                  have H := H1
                  clear H1
                  by_cases c92 : (x6_2.length : Int) > 65536
                  · rw [if_pos c92] at H
                    have c92b0 : decide (65536 < (x6_2.length : Int)) = true := decide_eq_true c92
                    have c92b1 : decide (65536 < x6_2.length) = true := decide_eq_true (by omega)
                    clear c92
                    simp only [Option.some.injEq, Prod.mk.injEq] at H
                    obtain ⟨rfl, rfl⟩ := H
                    obtain ⟨Ao93, co93, eo93⟩ := Kd.R_slice HO_6.out
                    subst eo93
                    go_wp2
                    go_ret2
                    exact ⟨_, by first | rfl | (simp [errW_none, errW_some] <;> rfl) | (simp only [← hji11]; first | rfl | (simp [errW_none, errW_some] <;> rfl)) | (simp [*, errW_none, errW_some] <;> rfl), by first | exact Kd.R_nil _ _ _ _ _ | exact Kd.N_nil _ _ _ _ _ | exact Kd.V_nil _ _ _ _ _ | exact Kd.Q_nil _ _ _ _ _ | exact Kd.S_nil _ _ _ _ _, by repeat (first | (with_reducible first | exact HB.out | apply below_alloc | apply pw_below_drewN | apply below_drew1) | exact HB.out)⟩
                  · rw [if_neg c92] at H
                    have c92b0 : decide (65536 < (x6_2.length : Int)) = false := decide_eq_false c92
                    have c92b1 : decide (65536 < x6_2.length) = false := decide_eq_false (by omega)
                    clear c92
                    simp only [Option.some.injEq, Prod.mk.injEq] at H
                    obtain ⟨rfl, rfl⟩ := H
                    obtain ⟨Ao94, co94, eo94⟩ := Kd.R_slice HO_6.out
                    subst eo94
                    go_wp2
                    go_ret2
                    exact ⟨_, by first | rfl | (simp [errW_none, errW_some] <;> rfl) | (simp only [← hji11]; first | rfl | (simp [errW_none, errW_some] <;> rfl)) | (simp [*, errW_none, errW_some] <;> rfl), by (with_reducible repeat (first | apply Kd.R_alloc | apply Kd.R_drewN | apply Kd.R_drew)); exact HO_6.out, by repeat (first | (with_reducible first | exact HB.out | apply below_alloc | apply pw_below_drewN | apply below_drew1) | exact HB.out)⟩

end Go.Proofs.Ytfjhommpgbppjaa.R
