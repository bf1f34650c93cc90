-- Laid by this session's turned edition of print.py out of the translation. Not trusted: Lean checks it.
import Derived.Test.YtfjhommpgbppjaaR0
import Derived.Test.YtfjhommpgbppjaaR1
import Derived.Test.YtfjhommpgbppjaaR2
import Derived.Test.YtfjhommpgbppjaaR3
import Derived.Test.YtfjhommpgbppjaaR4
namespace Go.Proofs.Ytfjhommpgbppjaa.R
open Go.RowKit Go.Proofs.YtfjhommpgbppjaaW.PrintWords Go.Proofs.YtfjhommpgbppjaaW.PrintLast Go.Proofs.YtfjhommpgbppjaaW.PrintMore
attribute [local go_sem] max2_int min2_int max_two min_two max_three min_three max_four min_four   -- for this text's walks alone
set_option linter.unusedVariables false
set_option linter.unusedSimpArgs false

/-! ### manometerlaw09_PointsFolds: function 10 -/
mutual
def manometerlaw09_PointsFolds.j0 : Nat → List (S25) → Int → Bool → Option (Bool)
  | 0, _, _, _ => none
  | k + 1, x0, x1, x27 => if x27 = true then ((manometerlaw09_live.f k).bind fun t233 => (if t233 = true then (some t233) else (none))) else (manometerlaw09_PointsFolds.l0 k x0 x1 x0 (x0.length : Int) 0)
def manometerlaw09_PointsFolds.l0 : Nat → List (S25) → Int → List (S25) → Int → Int → Option (Bool)
  | 0, _, _, _, _, _ => none
  | k + 1, x0, x1, x29, x30, x31 => if x31 < x30 then (if 0 ≤ x31 then (if x31 < (x29.length : Int) then (if ((rd_T25 x29 x31).f2) = 0 then (some true) else (manometerlaw09_PointsFolds.l0 k x0 x1 x29 x30 (wrap64 (x31 + 1)))) else (none)) else (none)) else (manometerlaw09_PointsFolds.l1 k x0 x1 ([] : List (S25)) ([] : List (S25)) ([] : List (S25)) x0 (x0.length : Int) 0)
def manometerlaw09_PointsFolds.l1 : Nat → List (S25) → Int → List (S25) → List (S25) → List (S25) → List (S25) → Int → Int → Option (Bool)
  | 0, _, _, _, _, _, _, _, _ => none
  | k + 1, x0, x1, x7, x8, x9, x39, x40, x41 => if x41 < x40 then (if 0 ≤ x41 then (if x41 < (x39.length : Int) then (if x1 > 0 then (if (x0.length : Int) = 0 then (none) else (manometerlaw09_PointsFolds.j3 k x0 x1 x7 x8 x9 (Int.tmod (wrap64 (x41 + (Int.tmod x1 (x0.length : Int)))) (x0.length : Int)) x39 x40 x41 ((rd_T25 x39 x41).f0) ((rd_T25 x39 x41).f1) ((rd_T25 x39 x41).f2))) else (manometerlaw09_PointsFolds.j3 k x0 x1 x7 x8 x9 (wrap64 ((wrap64 ((x0.length : Int) - 1)) - x41)) x39 x40 x41 ((rd_T25 x39 x41).f0) ((rd_T25 x39 x41).f1) ((rd_T25 x39 x41).f2))) else (none)) else (none)) else ((manometerref09_Same.f k x7 x8).bind fun t257 => (if t257 = true then ((manometerref09_Same.f k x7 x9).bind fun t258 => (some t258)) else (some false)))
def manometerlaw09_PointsFolds.j3 : Nat → List (S25) → Int → List (S25) → List (S25) → List (S25) → Int → List (S25) → Int → Int → Int → Int → Int → Option (Bool)
  | 0, _, _, _, _, _, _, _, _, _, _, _, _ => none
  | k + 1, x0, x1, x7, x8, x9, x12, x39, x40, x41, x238000, x238001, x238002 => (points_Put.f k x7 x238000 x238001 x238002).bind fun bt238 => (if 0 ≤ x12 then (if x12 < (x0.length : Int) then ((points_Put.f k x8 ((rd_T25 x0 x12).f0) ((rd_T25 x0 x12).f1) ((rd_T25 x0 x12).f2)).bind fun bt244 => ((points_Merge.f k x9 (([(⟨x238000, x238001, x238002⟩ : S25)] : List (S25)))).bind fun bt252 => (if bt238.2.2 = 0 then (if bt244.2.2 = 0 then (if bt252.2 = 0 then ((points_Right.f k bt238.1).bind fun t256 => (manometerlaw09_PointsFolds.j4 k x0 x1 bt238.1 bt244.1 bt252.1 x39 x40 x41 (!t256))) else (manometerlaw09_PointsFolds.j4 k x0 x1 bt238.1 bt244.1 bt252.1 x39 x40 x41 true)) else (manometerlaw09_PointsFolds.j4 k x0 x1 bt238.1 bt244.1 bt252.1 x39 x40 x41 true)) else (manometerlaw09_PointsFolds.j4 k x0 x1 bt238.1 bt244.1 bt252.1 x39 x40 x41 true)))) else (none)) else (none))
def manometerlaw09_PointsFolds.j4 : Nat → List (S25) → Int → List (S25) → List (S25) → List (S25) → List (S25) → Int → Int → Bool → Option (Bool)
  | 0, _, _, _, _, _, _, _, _, _ => none
  | k + 1, x0, x1, x7, x8, x9, x39, x40, x41, x100 => if x100 = true then (some false) else (manometerlaw09_PointsFolds.l1 k x0 x1 x7 x8 x9 x39 x40 (wrap64 (x41 + 1)))
end
def manometerlaw09_PointsFolds.f (k : Nat) (l0 : List (S25)) (a1 : Int) : Option (Bool) := (manometerlaw09_live.f k).bind fun t231 => (if t231 = true then ((manometerlaw09_few.f l0).bind fun t232 => (if t232 = true then (manometerlaw09_PointsFolds.j0 k l0 a1 (decide ((l0.length : Int) > 60))) else (manometerlaw09_PointsFolds.j0 k l0 a1 true))) else (none))
theorem manometerlaw09_PointsFolds.mono_l : ∀ k, (∀ y0 y1 y2, LeO (manometerlaw09_PointsFolds.j0 k y0 y1 y2) (manometerlaw09_PointsFolds.j0 (k + 1) y0 y1 y2)) ∧ (∀ y0 y1 y2 y3 y4, LeO (manometerlaw09_PointsFolds.l0 k y0 y1 y2 y3 y4) (manometerlaw09_PointsFolds.l0 (k + 1) y0 y1 y2 y3 y4)) ∧ (∀ y0 y1 y2 y3 y4 y5 y6 y7, LeO (manometerlaw09_PointsFolds.l1 k y0 y1 y2 y3 y4 y5 y6 y7) (manometerlaw09_PointsFolds.l1 (k + 1) y0 y1 y2 y3 y4 y5 y6 y7)) ∧ (∀ y0 y1 y2 y3 y4 y5 y6 y7 y8 y9 y10 y11, LeO (manometerlaw09_PointsFolds.j3 k y0 y1 y2 y3 y4 y5 y6 y7 y8 y9 y10 y11) (manometerlaw09_PointsFolds.j3 (k + 1) y0 y1 y2 y3 y4 y5 y6 y7 y8 y9 y10 y11)) ∧ (∀ y0 y1 y2 y3 y4 y5 y6 y7 y8, LeO (manometerlaw09_PointsFolds.j4 k y0 y1 y2 y3 y4 y5 y6 y7 y8) (manometerlaw09_PointsFolds.j4 (k + 1) y0 y1 y2 y3 y4 y5 y6 y7 y8))
  | 0 => ⟨fun _ _ _ r h => by simp [manometerlaw09_PointsFolds.j0] at h, fun _ _ _ _ _ r h => by simp [manometerlaw09_PointsFolds.l0] at h, fun _ _ _ _ _ _ _ _ r h => by simp [manometerlaw09_PointsFolds.l1] at h, fun _ _ _ _ _ _ _ _ _ _ _ _ r h => by simp [manometerlaw09_PointsFolds.j3] at h, fun _ _ _ _ _ _ _ _ _ r h => by simp [manometerlaw09_PointsFolds.j4] at h⟩
  | k + 1 => by
    obtain ⟨ih0, ih1, ih2, ih3, ih4⟩ := manometerlaw09_PointsFolds.mono_l k
    refine ⟨?_, ?_, ?_, ?_, ?_⟩
    · intro y0 y1 y2
      unfold manometerlaw09_PointsFolds.j0
      repeat' first
      | (with_reducible exact ih0 _ _ _)
      | (with_reducible exact ih1 _ _ _ _ _)
      | (with_reducible exact ih2 _ _ _ _ _ _ _ _)
      | (with_reducible exact ih3 _ _ _ _ _ _ _ _ _ _ _ _)
      | (with_reducible exact ih4 _ _ _ _ _ _ _ _ _)
      | (with_reducible exact manometerlaw09_live.mono _)
      | (with_reducible exact manometerref09_Same.mono _ _ _)
      | (with_reducible exact points_Merge.mono _ _ _)
      | (with_reducible exact points_Put.mono _ _ _ _ _)
      | (with_reducible exact points_Right.mono _ _)
      | (with_reducible exact LeO.refl _)
      | (with_reducible exact LeO.none _)
      | (with_reducible refine LeO.ite ?_ ?_)
      | (with_reducible refine LeO.bind ?_ (fun _ => ?_))
      | exact ih0 _ _ _
      | exact ih1 _ _ _ _ _
      | exact ih2 _ _ _ _ _ _ _ _
      | exact ih3 _ _ _ _ _ _ _ _ _ _ _ _
      | exact ih4 _ _ _ _ _ _ _ _ _
      | exact manometerlaw09_live.mono _
      | exact manometerref09_Same.mono _ _ _
      | exact points_Merge.mono _ _ _
      | exact points_Put.mono _ _ _ _ _
      | exact points_Right.mono _ _
      | exact LeO.none _
      | refine LeO.ite ?_ ?_
      | refine LeO.bind ?_ (fun _ => ?_)
    · intro y0 y1 y2 y3 y4
      unfold manometerlaw09_PointsFolds.l0
      repeat' first
      | (with_reducible exact ih0 _ _ _)
      | (with_reducible exact ih1 _ _ _ _ _)
      | (with_reducible exact ih2 _ _ _ _ _ _ _ _)
      | (with_reducible exact ih3 _ _ _ _ _ _ _ _ _ _ _ _)
      | (with_reducible exact ih4 _ _ _ _ _ _ _ _ _)
      | (with_reducible exact manometerlaw09_live.mono _)
      | (with_reducible exact manometerref09_Same.mono _ _ _)
      | (with_reducible exact points_Merge.mono _ _ _)
      | (with_reducible exact points_Put.mono _ _ _ _ _)
      | (with_reducible exact points_Right.mono _ _)
      | (with_reducible exact LeO.refl _)
      | (with_reducible exact LeO.none _)
      | (with_reducible refine LeO.ite ?_ ?_)
      | (with_reducible refine LeO.bind ?_ (fun _ => ?_))
      | exact ih0 _ _ _
      | exact ih1 _ _ _ _ _
      | exact ih2 _ _ _ _ _ _ _ _
      | exact ih3 _ _ _ _ _ _ _ _ _ _ _ _
      | exact ih4 _ _ _ _ _ _ _ _ _
      | exact manometerlaw09_live.mono _
      | exact manometerref09_Same.mono _ _ _
      | exact points_Merge.mono _ _ _
      | exact points_Put.mono _ _ _ _ _
      | exact points_Right.mono _ _
      | exact LeO.none _
      | refine LeO.ite ?_ ?_
      | refine LeO.bind ?_ (fun _ => ?_)
    · intro y0 y1 y2 y3 y4 y5 y6 y7
      unfold manometerlaw09_PointsFolds.l1
      repeat' first
      | (with_reducible exact ih0 _ _ _)
      | (with_reducible exact ih1 _ _ _ _ _)
      | (with_reducible exact ih2 _ _ _ _ _ _ _ _)
      | (with_reducible exact ih3 _ _ _ _ _ _ _ _ _ _ _ _)
      | (with_reducible exact ih4 _ _ _ _ _ _ _ _ _)
      | (with_reducible exact manometerlaw09_live.mono _)
      | (with_reducible exact manometerref09_Same.mono _ _ _)
      | (with_reducible exact points_Merge.mono _ _ _)
      | (with_reducible exact points_Put.mono _ _ _ _ _)
      | (with_reducible exact points_Right.mono _ _)
      | (with_reducible exact LeO.refl _)
      | (with_reducible exact LeO.none _)
      | (with_reducible refine LeO.ite ?_ ?_)
      | (with_reducible refine LeO.bind ?_ (fun _ => ?_))
      | exact ih0 _ _ _
      | exact ih1 _ _ _ _ _
      | exact ih2 _ _ _ _ _ _ _ _
      | exact ih3 _ _ _ _ _ _ _ _ _ _ _ _
      | exact ih4 _ _ _ _ _ _ _ _ _
      | exact manometerlaw09_live.mono _
      | exact manometerref09_Same.mono _ _ _
      | exact points_Merge.mono _ _ _
      | exact points_Put.mono _ _ _ _ _
      | exact points_Right.mono _ _
      | exact LeO.none _
      | refine LeO.ite ?_ ?_
      | refine LeO.bind ?_ (fun _ => ?_)
    · intro y0 y1 y2 y3 y4 y5 y6 y7 y8 y9 y10 y11
      unfold manometerlaw09_PointsFolds.j3
      repeat' first
      | (with_reducible exact ih0 _ _ _)
      | (with_reducible exact ih1 _ _ _ _ _)
      | (with_reducible exact ih2 _ _ _ _ _ _ _ _)
      | (with_reducible exact ih3 _ _ _ _ _ _ _ _ _ _ _ _)
      | (with_reducible exact ih4 _ _ _ _ _ _ _ _ _)
      | (with_reducible exact manometerlaw09_live.mono _)
      | (with_reducible exact manometerref09_Same.mono _ _ _)
      | (with_reducible exact points_Merge.mono _ _ _)
      | (with_reducible exact points_Put.mono _ _ _ _ _)
      | (with_reducible exact points_Right.mono _ _)
      | (with_reducible exact LeO.refl _)
      | (with_reducible exact LeO.none _)
      | (with_reducible refine LeO.ite ?_ ?_)
      | (with_reducible refine LeO.bind ?_ (fun _ => ?_))
      | exact ih0 _ _ _
      | exact ih1 _ _ _ _ _
      | exact ih2 _ _ _ _ _ _ _ _
      | exact ih3 _ _ _ _ _ _ _ _ _ _ _ _
      | exact ih4 _ _ _ _ _ _ _ _ _
      | exact manometerlaw09_live.mono _
      | exact manometerref09_Same.mono _ _ _
      | exact points_Merge.mono _ _ _
      | exact points_Put.mono _ _ _ _ _
      | exact points_Right.mono _ _
      | exact LeO.none _
      | refine LeO.ite ?_ ?_
      | refine LeO.bind ?_ (fun _ => ?_)
    · intro y0 y1 y2 y3 y4 y5 y6 y7 y8
      unfold manometerlaw09_PointsFolds.j4
      repeat' first
      | (with_reducible exact ih0 _ _ _)
      | (with_reducible exact ih1 _ _ _ _ _)
      | (with_reducible exact ih2 _ _ _ _ _ _ _ _)
      | (with_reducible exact ih3 _ _ _ _ _ _ _ _ _ _ _ _)
      | (with_reducible exact ih4 _ _ _ _ _ _ _ _ _)
      | (with_reducible exact manometerlaw09_live.mono _)
      | (with_reducible exact manometerref09_Same.mono _ _ _)
      | (with_reducible exact points_Merge.mono _ _ _)
      | (with_reducible exact points_Put.mono _ _ _ _ _)
      | (with_reducible exact points_Right.mono _ _)
      | (with_reducible exact LeO.refl _)
      | (with_reducible exact LeO.none _)
      | (with_reducible refine LeO.ite ?_ ?_)
      | (with_reducible refine LeO.bind ?_ (fun _ => ?_))
      | exact ih0 _ _ _
      | exact ih1 _ _ _ _ _
      | exact ih2 _ _ _ _ _ _ _ _
      | exact ih3 _ _ _ _ _ _ _ _ _ _ _ _
      | exact ih4 _ _ _ _ _ _ _ _ _
      | exact manometerlaw09_live.mono _
      | exact manometerref09_Same.mono _ _ _
      | exact points_Merge.mono _ _ _
      | exact points_Put.mono _ _ _ _ _
      | exact points_Right.mono _ _
      | exact LeO.none _
      | refine LeO.ite ?_ ?_
      | refine LeO.bind ?_ (fun _ => ?_)
theorem manometerlaw09_PointsFolds.mono : ∀ a0 a1 k, LeO (manometerlaw09_PointsFolds.f k a0 a1) (manometerlaw09_PointsFolds.f (k + 1) a0 a1) := by
  intro a0 a1 k
  obtain ⟨ih0, ih1, ih2, ih3, ih4⟩ := manometerlaw09_PointsFolds.mono_l k
  unfold manometerlaw09_PointsFolds.f
  repeat' first
      | (with_reducible exact ih0 _ _ _)
      | (with_reducible exact ih1 _ _ _ _ _)
      | (with_reducible exact ih2 _ _ _ _ _ _ _ _)
      | (with_reducible exact ih3 _ _ _ _ _ _ _ _ _ _ _ _)
      | (with_reducible exact ih4 _ _ _ _ _ _ _ _ _)
      | (with_reducible exact manometerlaw09_live.mono _)
      | (with_reducible exact manometerref09_Same.mono _ _ _)
      | (with_reducible exact points_Merge.mono _ _ _)
      | (with_reducible exact points_Put.mono _ _ _ _ _)
      | (with_reducible exact points_Right.mono _ _)
      | (with_reducible exact LeO.refl _)
      | (with_reducible exact LeO.none _)
      | (with_reducible refine LeO.ite ?_ ?_)
      | (with_reducible refine LeO.bind ?_ (fun _ => ?_))
      | exact ih0 _ _ _
      | exact ih1 _ _ _ _ _
      | exact ih2 _ _ _ _ _ _ _ _
      | exact ih3 _ _ _ _ _ _ _ _ _ _ _ _
      | exact ih4 _ _ _ _ _ _ _ _ _
      | exact manometerlaw09_live.mono _
      | exact manometerref09_Same.mono _ _ _
      | exact points_Merge.mono _ _ _
      | exact points_Put.mono _ _ _ _ _
      | exact points_Right.mono _ _
      | exact LeO.none _
      | refine LeO.ite ?_ ?_
      | refine LeO.bind ?_ (fun _ => ?_)
set_option maxHeartbeats 8000000 in
set_option maxRecDepth 100000 in
theorem manometerlaw09_PointsFolds.calls (k : Nat) (A0 : Option Addr) (c0 : Nat) (l0 : List (S25)) (a1 : Int) (r : Bool) (w : World) (hr0 : Kd.C k25 w A0 l0.length l0) (hc0 : l0.length ≤ c0) (hT : r = true) (h : manometerlaw09_PointsFolds.f k l0 a1 = some r) :
    Calls Try.prog 10 #[.slice A0 l0.length c0, .int .i64 a1] w fun e w' => e = .returned (.bool r) ∧ Below w.heap.size w w' := by
  have hu25 := Try.underlying25
  have HR0 := Aside0.mk hr0
  have HC0 := Aside0.mk hc0
  clear hr0 hc0
  have HT_r := Aside0.mk hT
  clear hT
  have HB := Aside0.mk (Below.refl w.heap.size w)
  have H : ((manometerlaw09_live.f k).bind fun t231 => (if t231 = true then ((manometerlaw09_few.f l0).bind fun t232 => (if t232 = true then (manometerlaw09_PointsFolds.j0 k l0 a1 (decide ((l0.length : Int) > 60))) else (manometerlaw09_PointsFolds.j0 k l0 a1 true))) else (none))) = some r := h
  clear h
  have HC3 := Aside0.mk H
  clear H
  go_enter Try.func10, Try.ntmps10
  go_upto_region 1 with (fail)
  go_cut [27] (fun v27 wc => ∃ (kq : Nat) (x27_2 : Bool), v27 = .bool x27_2 ∧ Aside0 (manometerlaw09_PointsFolds.j0 kq l0 a1 x27_2 = some r) ∧ Aside0 (kq ≤ k) ∧ Aside0 (Below w.heap.size w wc))
  case first =>
    have H := HC3.out
    clear HC3
    replace H := Option.bind_eq_some_iff.mp H
    obtain ⟨t231, A40, H⟩ := H
    replace H : (if t231 = true then ((manometerlaw09_few.f l0).bind fun t232 => (if t232 = true then (manometerlaw09_PointsFolds.j0 k l0 a1 (decide ((l0.length : Int) > 60))) else (manometerlaw09_PointsFolds.j0 k l0 a1 true))) else (none)) = some r := H
    have A4 := Aside0.mk A40
    clear A40
    by_cases c5 : t231 = true
    · subst c5
      have H1 : ((manometerlaw09_few.f l0).bind fun t232 => (if t232 = true then (manometerlaw09_PointsFolds.j0 k l0 a1 (decide ((l0.length : Int) > 60))) else (manometerlaw09_PointsFolds.j0 k l0 a1 true))) = some r := by rw [if_pos rfl] at H; exact H
      clear H
      have H := H1
      clear H1
      replace H := Option.bind_eq_some_iff.mp H
      obtain ⟨t232, A60, H⟩ := H
      replace H : (if t232 = true then (manometerlaw09_PointsFolds.j0 k l0 a1 (decide ((l0.length : Int) > 60))) else (manometerlaw09_PointsFolds.j0 k l0 a1 true)) = some r := H
      have A6 := Aside0.mk A60
      clear A60
      by_cases c7 : t232 = true
      · subst c7
        have H1 : (manometerlaw09_PointsFolds.j0 k l0 a1 (decide ((l0.length : Int) > 60))) = some r := by rw [if_pos rfl] at H; exact H
        clear H
        have H := H1
        clear H1
        have H' := Aside0.mk H
        clear H
        go_wp2_with (first | ((with_reducible refine gate_callee (f := 12) rfl ?_); refine goesL_ (some 16) rfl rfl Try.func12 (by kernel_rfl) rfl #[] rfl (by (try simp only [List.map_toArray, List.map_cons, List.map_nil]); first | done | rfl | (simp only [List.length_drop, List.length_take]; rfl)) ?_; (with_reducible refine (manometerlaw09_live.calls k  true _ A4.out).mono ?_); rintro e w8 ⟨rfl, hb⟩; refine ⟨_, rfl, ?_⟩; have n0_ := Aside0.mk (below_step (by repeat (first | (with_reducible first | exact HB.out | apply below_alloc | apply pw_below_drewN | apply below_drew1) | exact HB.out)) hb); clear HB; have HB := n0_; clear n0_; (try clear hb); (try clear hb2); (try clear hk); (try clear hi)) | (go_at_call 13; (with_reducible refine (manometerlaw09_few.calls _ _ l0 true _ ?side1 ?side2 A6.out).mono ?_); (case side1 => repeat (first | exact (Kd.C_below HR0.out HB.out) | (with_reducible refine Kd.C_alloc ?_ _) | (with_reducible refine Kd.C_drewN ?_ _) | (with_reducible refine Kd.C_drew ?_))); (case side2 => exact HC0.out); rintro e w' ⟨rfl, ⟨nd, rfl⟩⟩))
        go_meet
        case rel => exact ⟨_, (decide ((l0.length : Int) > 60)), (by first | rfl | (simp; done) | (simp [*]; done)), H', ⟨by first | omega | exact Nat.le_refl _⟩, ⟨by repeat (first | (with_reducible first | exact HB.out | apply below_alloc | apply pw_below_drewN | apply below_drew1) | exact HB.out)⟩⟩
      · replace c7 := Bool.eq_false_iff.mpr c7
        subst c7
        have H1 : (manometerlaw09_PointsFolds.j0 k l0 a1 true) = some r := by rw [if_neg (show ¬ (false = true) by decide)] at H; exact H
        clear H
        have H := H1
        clear H1
        have H' := Aside0.mk H
        clear H
        go_wp2_with (first | ((with_reducible refine gate_callee (f := 12) rfl ?_); refine goesL_ (some 16) rfl rfl Try.func12 (by kernel_rfl) rfl #[] rfl (by (try simp only [List.map_toArray, List.map_cons, List.map_nil]); first | done | rfl | (simp only [List.length_drop, List.length_take]; rfl)) ?_; (with_reducible refine (manometerlaw09_live.calls k  true _ A4.out).mono ?_); rintro e w9 ⟨rfl, hb⟩; refine ⟨_, rfl, ?_⟩; have n0_ := Aside0.mk (below_step (by repeat (first | (with_reducible first | exact HB.out | apply below_alloc | apply pw_below_drewN | apply below_drew1) | exact HB.out)) hb); clear HB; have HB := n0_; clear n0_; (try clear hb); (try clear hb2); (try clear hk); (try clear hi)) | (go_at_call 13; (with_reducible refine (manometerlaw09_few.calls _ _ l0 false _ ?side1 ?side2 A6.out).mono ?_); (case side1 => repeat (first | exact (Kd.C_below HR0.out HB.out) | (with_reducible refine Kd.C_alloc ?_ _) | (with_reducible refine Kd.C_drewN ?_ _) | (with_reducible refine Kd.C_drew ?_))); (case side2 => exact HC0.out); rintro e w' ⟨rfl, ⟨nd, rfl⟩⟩))
        go_meet
        case rel => exact ⟨_, (true), (by first | rfl | (simp; done) | (simp [*]; done)), H', ⟨by first | omega | exact Nat.le_refl _⟩, ⟨by repeat (first | (with_reducible first | exact HB.out | apply below_alloc | apply pw_below_drewN | apply below_drew1) | exact HB.out)⟩⟩
    · replace c5 := Bool.eq_false_iff.mpr c5
      subst c5
      have H1 : (none) = some r := by rw [if_neg (show ¬ (false = true) by decide)] at H; exact H
      clear H
      have H := H1
      clear H1
      exact absurd H (by simp)
  case rest =>
    clear HC3
    try clear c1
    try clear p2
    try clear c5
    try clear c7
    obtain ⟨kq, x27_2, rfl, HA, HJ2, HB⟩ := hcut
    cases kq with
    | zero => exact absurd HA.out (by simp [manometerlaw09_PointsFolds.j0])
    | succ kj2 =>
      have H := HA.out
      clear HA
      simp only [manometerlaw09_PointsFolds.j0] at H
      by_cases c10 : x27_2 = true
      · subst c10
        have H1 : ((manometerlaw09_live.f kj2).bind fun t233 => (if t233 = true then (some t233) else (none))) = some r := by rw [if_pos rfl] at H; exact H
        clear H
        have H := H1
        clear H1
        replace H := Option.bind_eq_some_iff.mp H
        obtain ⟨t233, A110, H⟩ := H
        replace H : (if t233 = true then (some t233) else (none)) = some r := H
        have A11 := Aside0.mk A110
        clear A110
        by_cases c12 : t233 = true
        · subst c12
          have H1 : (some true) = some r := by rw [if_pos rfl] at H; exact H
          clear H
          have H := H1
          clear H1
          obtain rfl := Option.some.inj H
          go_wp2_with (first | ((with_reducible refine gate_callee (f := 12) rfl ?_); refine goesL_ (some 28) rfl rfl Try.func12 (by kernel_rfl) rfl #[] rfl (by (try simp only [List.map_toArray, List.map_cons, List.map_nil]); first | done | rfl | (simp only [List.length_drop, List.length_take]; rfl)) ?_; (with_reducible refine (manometerlaw09_live.calls kj2  true _ A11.out).mono ?_); rintro e w13 ⟨rfl, hb⟩; refine ⟨_, rfl, ?_⟩; have n0_ := Aside0.mk (below_step (by repeat (first | (with_reducible first | exact HB.out | apply below_alloc | apply pw_below_drewN | apply below_drew1) | exact HB.out)) hb); clear HB; have HB := n0_; clear n0_; (try clear hb); (try clear hb2); (try clear hk); (try clear hi)))
          go_ret
          exact ⟨by first | rfl | (simp [errW_none, errW_some] <;> rfl) | (simp [*, errW_none, errW_some] <;> rfl), by repeat (first | (with_reducible first | exact HB.out | apply below_alloc | apply pw_below_drewN | apply below_drew1) | exact HB.out)⟩
        · replace c12 := Bool.eq_false_iff.mpr c12
          subst c12
          have H1 : (none) = some r := by rw [if_neg (show ¬ (false = true) by decide)] at H; exact H
          clear H
          have H := H1
          clear H1
          exact absurd H (by simp)
      · replace c10 := Bool.eq_false_iff.mpr c10
        subst c10
        have H1 : (manometerlaw09_PointsFolds.l0 kj2 l0 a1 l0 (l0.length : Int) 0) = some r := by rw [if_neg (show ¬ (false = true) by decide)] at H; exact H
        clear H
        have H := H1
        clear H1
        have H' := Aside0.mk H
        clear H
        go_wp2
        go_loopg [31] kj2 (fun kq v31 w' => ∃ (x31_2 : Int), v31 = .int .i64 x31_2 ∧ Aside0 (manometerlaw09_PointsFolds.l0 kq l0 a1 l0 (l0.length : Int) x31_2 = some r) ∧ Aside0 (kq ≤ kj2) ∧ Aside0 (Below w.heap.size w w'))
        case atStart => exact ⟨(0), (by first | rfl | (simp; done) | (simp [*]; done)), H', ⟨Nat.le_refl _⟩, ⟨by repeat (first | (with_reducible first | exact HB.out | apply below_alloc | apply pw_below_drewN | apply below_drew1) | exact HB.out)⟩⟩
        case round =>
          clear H'
          try clear c1
          try clear p2
          try clear c5
          try clear c7
          try clear c10
          try clear c12
          try clear p2
          obtain ⟨x31_2, rfl, HA, HK2, HB⟩ := hrel
          cases gk with
          | zero => exact absurd HA.out (by simp [manometerlaw09_PointsFolds.l0])
          | succ k2 =>
            have H := HA.out
            clear HA
            simp only [manometerlaw09_PointsFolds.l0] at H
            by_cases c14 : x31_2 < (l0.length : Int)
            · rw [if_pos c14] at H
              have c14b0 : decide (x31_2 < (l0.length : Int)) = true := decide_eq_true c14
              clear c14
              by_cases c15 : 0 ≤ x31_2
              rotate_left
              · rw [if_neg c15] at H
                exact absurd H (by simp)
              rw [if_pos c15] at H
              have c15b0 : decide (0 ≤ x31_2) = true := decide_eq_true c15
              clear c15
              by_cases c16 : x31_2 < (l0.length : Int)
              rotate_left
              · rw [if_neg c16] at H
                exact absurd H (by simp)
              rw [if_pos c16] at H
              have c16b0 : decide (x31_2 < (l0.length : Int)) = true := decide_eq_true c16
              clear c16
              by_cases c17 : ((rd_T25 l0 x31_2).f2) = 0
              · rw [if_pos c17] at H
                have c17b0 : (((rd_T25 l0 x31_2).f2) == 0) = true := beq_iff_eq.mpr c17
                have c17b1 : (((rd_T25 l0 x31_2).f2) != 0) = false := bne_eq_false_iff_eq.mpr c17
                clear c17
                obtain rfl := Option.some.inj H
                have p234 : 0 ≤ (x31_2 : Int) := of_decide_eq_true (by first | (with_reducible assumption) | assumption)
                have q234 : x31_2 < (l0.length : Int) := of_decide_eq_true (by first | (with_reducible assumption) | assumption)
                obtain ⟨ad234, e234, hx234_0, hx234_1, hx234_2⟩ := at_T25 HR0.out x31_2 p234 q234
                cases e234
                replace hx234_0 := (HB.out.cell (World.block_lt_of_cell? w _ hx234_0)).trans hx234_0
                replace hx234_1 := (HB.out.cell (World.block_lt_of_cell? w _ hx234_1)).trans hx234_1
                replace hx234_2 := (HB.out.cell (World.block_lt_of_cell? w _ hx234_2)).trans hx234_2
                replace p234 := eq_true p234
                replace q234 := eq_true q234
                go_wp2_with (first | ((with_reducible refine gate_dst (N := 6) rfl ?_); (try (refine gate_guard (by rfl) ?_; dsimp only)); refine box_event ?hg (N := 6) ?hd (cs := #[.int .i64 0, .int .u64 0, .int .u64 0]) (t := 25) ?hr ?_; (case hd => rfl); (case hg => rfl); (case hr => first | (go_simp; done) | (go_simp; rfl)); intro gb235 hg w18 hbox hb; have n0_ := Aside0.mk (below_step (by repeat (first | (with_reducible first | exact HB.out | apply below_alloc | apply pw_below_drewN | apply below_drew1) | exact HB.out)) hb); have n1_ := Aside0.mk (hbox); have n2_ := Aside0.mk ((by rw [hg]; exact (below_size (by repeat (first | (with_reducible first | exact HB.out | apply below_alloc | apply pw_below_drewN | apply below_drew1) | exact HB.out))) : w.heap.size ≤ gb235)); have n3_ := Aside0.mk ((by rw [hg]; exact (below_size (by repeat (first | (with_reducible first | exact HB.out | apply below_alloc | apply pw_below_drewN | apply below_drew1) | exact HB.out))) : w.heap.size ≤ gb235)); clear HB; have HB := n0_; have BK235 := n1_; have GW235 := n2_; have GE235 := n3_; clear n0_ n1_ n2_ n3_; clear hb hbox hg; have hcz19_0 : w18.cell? ⟨gb235, 0, none⟩ = some (.int .i64 0) := (blk_cell BK235.out 0).trans rfl; have hcz19_1 : w18.cell? ⟨gb235, 1, none⟩ = some (.int .u64 0) := (blk_cell BK235.out 1).trans rfl; have hcz19_2 : w18.cell? ⟨gb235, 2, none⟩ = some (.int .u64 0) := (blk_cell BK235.out 2).trans rfl; have hfz19_0 := blk_frozen BK235.out 0; have hfz19_1 := blk_frozen BK235.out 1; have hfz19_2 := blk_frozen BK235.out 2))
                go_ret
                exact ⟨by first | rfl | (simp [errW_none, errW_some] <;> rfl) | (simp [*, errW_none, errW_some] <;> rfl), by repeat (first | (with_reducible first | exact HB.out | apply below_alloc | apply pw_below_drewN | apply below_drew1 | refine below_set ?_ GE235.out) | exact HB.out)⟩
              · rw [if_neg c17] at H
                have c17b0 : (((rd_T25 l0 x31_2).f2) == 0) = false := beq_eq_false_iff_ne.mpr c17
                have c17b1 : (((rd_T25 l0 x31_2).f2) != 0) = true := bne_iff_ne.mpr c17
                have H' := Aside0.mk H
                clear H
                have p234 : 0 ≤ (x31_2 : Int) := of_decide_eq_true (by first | (with_reducible assumption) | assumption)
                have q234 : x31_2 < (l0.length : Int) := of_decide_eq_true (by first | (with_reducible assumption) | assumption)
                obtain ⟨ad234, e234, hx234_0, hx234_1, hx234_2⟩ := at_T25 HR0.out x31_2 p234 q234
                cases e234
                replace hx234_0 := (HB.out.cell (World.block_lt_of_cell? w _ hx234_0)).trans hx234_0
                replace hx234_1 := (HB.out.cell (World.block_lt_of_cell? w _ hx234_1)).trans hx234_1
                replace hx234_2 := (HB.out.cell (World.block_lt_of_cell? w _ hx234_2)).trans hx234_2
                replace p234 := eq_true p234
                replace q234 := eq_true q234
                go_wp2_with (first | ((with_reducible refine gate_dst (N := 6) rfl ?_); (try (refine gate_guard (by rfl) ?_; dsimp only)); refine box_event ?hg (N := 6) ?hd (cs := #[.int .i64 0, .int .u64 0, .int .u64 0]) (t := 25) ?hr ?_; (case hd => rfl); (case hg => rfl); (case hr => first | (go_simp; done) | (go_simp; rfl)); intro gb235 hg w20 hbox hb; have n0_ := Aside0.mk (below_step (by repeat (first | (with_reducible first | exact HB.out | apply below_alloc | apply pw_below_drewN | apply below_drew1) | exact HB.out)) hb); have n1_ := Aside0.mk (hbox); have n2_ := Aside0.mk ((by rw [hg]; exact (below_size (by repeat (first | (with_reducible first | exact HB.out | apply below_alloc | apply pw_below_drewN | apply below_drew1) | exact HB.out))) : w.heap.size ≤ gb235)); have n3_ := Aside0.mk ((by rw [hg]; exact (below_size (by repeat (first | (with_reducible first | exact HB.out | apply below_alloc | apply pw_below_drewN | apply below_drew1) | exact HB.out))) : w.heap.size ≤ gb235)); clear HB; have HB := n0_; have BK235 := n1_; have GW235 := n2_; have GE235 := n3_; clear n0_ n1_ n2_ n3_; clear hb hbox hg; have hcz21_0 : w20.cell? ⟨gb235, 0, none⟩ = some (.int .i64 0) := (blk_cell BK235.out 0).trans rfl; have hcz21_1 : w20.cell? ⟨gb235, 1, none⟩ = some (.int .u64 0) := (blk_cell BK235.out 1).trans rfl; have hcz21_2 : w20.cell? ⟨gb235, 2, none⟩ = some (.int .u64 0) := (blk_cell BK235.out 2).trans rfl; have hfz21_0 := blk_frozen BK235.out 0; have hfz21_1 := blk_frozen BK235.out 1; have hfz21_2 := blk_frozen BK235.out 2))
                go_roundg k2
                case measure => have := HJ2.out; have := HK2.out; omega
                case rel => exact ⟨(wrap64 (x31_2 + 1)), (by first | rfl | (simp; done) | (simp [*]; done)), H', ⟨by have := HJ2.out; have := HK2.out; omega⟩, ⟨by repeat (first | (with_reducible first | exact HB.out | apply below_alloc | apply pw_below_drewN | apply below_drew1 | refine below_set ?_ GE235.out) | exact HB.out)⟩⟩
            · rw [if_neg c14] at H
              have c14b0 : decide (x31_2 < (l0.length : Int)) = false := decide_eq_false c14
              clear c14
              have H' := Aside0.mk H
              clear H
              go_wp2
              go_loopg [7, 8, 9, 41] k2 (fun kq v7 v8 v9 v41 w' => ∃ (x7_3 : List (S25)) (x8_3 : List (S25)) (x9_3 : List (S25)) (x41_3 : Int), v41 = .int .i64 x41_3 ∧ Aside0 (manometerlaw09_PointsFolds.l1 kq l0 a1 x7_3 x8_3 x9_3 l0 (l0.length : Int) x41_3 = some r) ∧ Aside0 (kq ≤ k2) ∧ Aside0 (Kd.R k25 25 w' w.heap.size (fun k_ => some k_ ≠ (v8 : Value).ownBlock ∧ some k_ ≠ (v9 : Value).ownBlock) v7 x7_3) ∧ Aside0 (Kd.R k25 25 w' w.heap.size (fun k_ => some k_ ≠ (v7 : Value).ownBlock ∧ some k_ ≠ (v9 : Value).ownBlock) v8 x8_3) ∧ Aside0 (Kd.R k25 25 w' w.heap.size (fun k_ => some k_ ≠ (v7 : Value).ownBlock ∧ some k_ ≠ (v8 : Value).ownBlock) v9 x9_3) ∧ Aside0 (Below w.heap.size w w'))
              case atStart => exact ⟨(([] : List (S25))), (([] : List (S25))), (([] : List (S25))), (0), (by first | rfl | (simp; done) | (simp [*]; done)), H', ⟨Nat.le_refl _⟩, ⟨by first | exact Kd.R_nil _ _ _ _ _ | exact Kd.N_nil _ _ _ _ _ | exact Kd.V_nil _ _ _ _ _ | exact Kd.Q_nil _ _ _ _ _ | exact Kd.S_nil _ _ _ _ _⟩, ⟨by first | exact Kd.R_nil _ _ _ _ _ | exact Kd.N_nil _ _ _ _ _ | exact Kd.V_nil _ _ _ _ _ | exact Kd.Q_nil _ _ _ _ _ | exact Kd.S_nil _ _ _ _ _⟩, ⟨by first | exact Kd.R_nil _ _ _ _ _ | exact Kd.N_nil _ _ _ _ _ | exact Kd.V_nil _ _ _ _ _ | exact Kd.Q_nil _ _ _ _ _ | exact Kd.S_nil _ _ _ _ _⟩, ⟨by repeat (first | (with_reducible first | exact HB.out | apply below_alloc | apply pw_below_drewN | apply below_drew1) | exact HB.out)⟩⟩
              case round =>
                clear H'
                try clear c1
                try clear p2
                try clear q2
                try clear hx2
                try clear c5
                try clear p6
                try clear c7
                try clear c10
                try clear c12
                try clear c14
                try clear c14b0
                try clear c15
                try clear c15b0
                try clear c16
                try clear c16b0
                try clear c17
                try clear c17b0
                try clear c17b1
                try clear hcz19_0
                try clear hcz19_1
                try clear hcz19_2
                try clear hcz21_0
                try clear hcz21_1
                try clear hcz21_2
                try clear hfz19_0
                try clear hfz19_1
                try clear hfz19_2
                try clear hfz21_0
                try clear hfz21_1
                try clear hfz21_2
                try clear hx234_0
                try clear hx234_1
                try clear hx234_2
                try clear p2
                try clear p234
                try clear q234
                obtain ⟨x7_3, x8_3, x9_3, x41_3, rfl, HA, HK3, HO_7, HO_8, HO_9, HB⟩ := hrel
                cases gk with
                | zero => exact absurd HA.out (by simp [manometerlaw09_PointsFolds.l1])
                | succ k3 =>
                  have H := HA.out
                  clear HA
                  simp only [manometerlaw09_PointsFolds.l1] at H
                  by_cases c22 : x41_3 < (l0.length : Int)
                  · rw [if_pos c22] at H
                    have c22b0 : decide (x41_3 < (l0.length : Int)) = true := decide_eq_true c22
                    clear c22
                    by_cases c23 : 0 ≤ x41_3
                    rotate_left
                    · rw [if_neg c23] at H
                      exact absurd H (by simp)
                    rw [if_pos c23] at H
                    have c23b0 : decide (0 ≤ x41_3) = true := decide_eq_true c23
                    clear c23
                    by_cases c24 : x41_3 < (l0.length : Int)
                    rotate_left
                    · rw [if_neg c24] at H
                      exact absurd H (by simp)
                    rw [if_pos c24] at H
                    have c24b0 : decide (x41_3 < (l0.length : Int)) = true := decide_eq_true c24
                    clear c24
                    have HC25 := Aside0.mk H
                    clear H
                    have p236 : 0 ≤ (x41_3 : Int) := of_decide_eq_true (by first | (with_reducible assumption) | assumption)
                    have q236 : x41_3 < (l0.length : Int) := of_decide_eq_true (by first | (with_reducible assumption) | assumption)
                    obtain ⟨ad236, e236, hx236_0, hx236_1, hx236_2⟩ := at_T25 HR0.out x41_3 p236 q236
                    cases e236
                    replace hx236_0 := (HB.out.cell (World.block_lt_of_cell? w _ hx236_0)).trans hx236_0
                    replace hx236_1 := (HB.out.cell (World.block_lt_of_cell? w _ hx236_1)).trans hx236_1
                    replace hx236_2 := (HB.out.cell (World.block_lt_of_cell? w _ hx236_2)).trans hx236_2
                    replace p236 := eq_true p236
                    replace q236 := eq_true q236
                    go_upto_if 52 with (first | ((with_reducible refine gate_dst (N := 11) rfl ?_); (try (refine gate_guard (by rfl) ?_; dsimp only)); refine box_event ?hg (N := 11) ?hd (cs := #[.int .i64 0, .int .u64 0, .int .u64 0]) (t := 25) ?hr ?_; (case hd => rfl); (case hg => rfl); (case hr => first | (go_simp; done) | (go_simp; rfl)); intro gb237 hg w26 hbox hb; have n0_ := Aside0.mk (Kd.R_below (Kd.R_elderB (by (with_reducible repeat (first | apply Kd.R_alloc | apply Kd.R_drewN | apply Kd.R_drew)); exact HO_7.out) gb237 (Nat.le_of_eq hg.symm)) hb); have n1_ := Aside0.mk (Kd.R_below (Kd.R_elderB (by (with_reducible repeat (first | apply Kd.R_alloc | apply Kd.R_drewN | apply Kd.R_drew)); exact HO_8.out) gb237 (Nat.le_of_eq hg.symm)) hb); have n2_ := Aside0.mk (Kd.R_below (Kd.R_elderB (by (with_reducible repeat (first | apply Kd.R_alloc | apply Kd.R_drewN | apply Kd.R_drew)); exact HO_9.out) gb237 (Nat.le_of_eq hg.symm)) hb); have n3_ := Aside0.mk (below_step (by repeat (first | (with_reducible first | exact HB.out | apply below_alloc | apply pw_below_drewN | apply below_drew1) | exact HB.out)) hb); have n4_ := Aside0.mk (hbox); have n5_ := Aside0.mk ((by rw [hg]; exact (below_size (by repeat (first | (with_reducible first | exact HB.out | apply below_alloc | apply pw_below_drewN | apply below_drew1) | exact HB.out))) : w.heap.size ≤ gb237)); have n6_ := Aside0.mk ((by rw [hg]; exact (below_size (by repeat (first | (with_reducible first | exact HB.out | apply below_alloc | apply pw_below_drewN | apply below_drew1) | exact HB.out))) : w.heap.size ≤ gb237)); clear HO_7; clear HO_8; clear HO_9; clear HB; have HO_7 := n0_; have HO_8 := n1_; have HO_9 := n2_; have HB := n3_; have BK237 := n4_; have GW237 := n5_; have GE237 := n6_; clear n0_ n1_ n2_ n3_ n4_ n5_ n6_; clear hb hbox hg; have hcz27_0 : w26.cell? ⟨gb237, 0, none⟩ = some (.int .i64 0) := (blk_cell BK237.out 0).trans rfl; have hcz27_1 : w26.cell? ⟨gb237, 1, none⟩ = some (.int .u64 0) := (blk_cell BK237.out 1).trans rfl; have hcz27_2 : w26.cell? ⟨gb237, 2, none⟩ = some (.int .u64 0) := (blk_cell BK237.out 2).trans rfl; have hfz27_0 := blk_frozen BK237.out 0; have hfz27_1 := blk_frozen BK237.out 1; have hfz27_2 := blk_frozen BK237.out 2))
                    (try simp only [Act.put, List.setIfInBounds_toArray, List.set_cons_zero, List.set_cons_succ])
                    go_cut [12] (fun v12 wc => ∃ (kq : Nat) (x12_24 : Int), v12 = .int .i64 x12_24 ∧ Aside0 (manometerlaw09_PointsFolds.j3 kq l0 a1 x7_3 x8_3 x9_3 x12_24 l0 (l0.length : Int) x41_3 ((rd_T25 l0 x41_3).f0) ((rd_T25 l0 x41_3).f1) ((rd_T25 l0 x41_3).f2) = some r) ∧ Aside0 (kq ≤ k3) ∧ Aside0 (Kd.R k25 25 wc w.heap.size (fun k_ => some k_ ≠ (u8 : Value).ownBlock ∧ some k_ ≠ (u9 : Value).ownBlock ∧ k_ ≠ gb237) u7 x7_3) ∧ Aside0 (Kd.R k25 25 wc w.heap.size (fun k_ => some k_ ≠ (u7 : Value).ownBlock ∧ some k_ ≠ (u9 : Value).ownBlock ∧ k_ ≠ gb237) u8 x8_3) ∧ Aside0 (Kd.R k25 25 wc w.heap.size (fun k_ => some k_ ≠ (u7 : Value).ownBlock ∧ some k_ ≠ (u8 : Value).ownBlock ∧ k_ ≠ gb237) u9 x9_3) ∧ Aside0 (wc.heap[gb237]? = some (.cells #[.int .i64 ((rd_T25 l0 x41_3).f0), .int .u64 ((rd_T25 l0 x41_3).f1), .int .u64 ((rd_T25 l0 x41_3).f2)] 25 (0, 0))) ∧ Aside0 (Below w.heap.size w wc))
                    case first =>
                      have H := HC25.out
                      clear HC25
                      by_cases c28 : a1 > 0
                      · rw [if_pos c28] at H
                        have c28b0 : decide (0 < a1) = true := decide_eq_true c28
                        clear c28
                        (first | rw [c28b0] | (simp only [i64_w, i32_w, xu32_w, xu8_w]; rw [c28b0]) | skip)
                        by_cases c29 : (l0.length : Int) = 0
                        · rw [if_pos c29] at H
                          exact absurd H (by simp)
                        rw [if_neg c29] at H
                        have c29b0 : ((l0.length : Int) == 0) = false := beq_eq_false_iff_ne.mpr c29
                        have c29b1 : ((l0.length : Int) != 0) = true := bne_iff_ne.mpr c29
                        have c29b2 : ¬ (l0 = []) := fun h_ => c29 (by rw [h_]; rfl)
                        have H' := Aside0.mk H
                        clear H
                        go_wp2
                        go_meet
                        case rel => exact ⟨_, (Int.tmod (wrap64 (x41_3 + (Int.tmod a1 (l0.length : Int)))) (l0.length : Int)), (by first | rfl | (simp; done) | (simp [*]; done)), H', ⟨by have := HJ2.out; have := HK2.out; have := HK3.out; first | omega | exact Nat.le_refl _⟩, ⟨by (with_reducible repeat (first | apply Kd.R_alloc | apply Kd.R_drewN | apply Kd.R_drew)); exact Kd.R_mono (Kd.R_far (p := ⟨gb237, 2, none⟩) (Kd.R_far (p := ⟨gb237, 1, none⟩) (Kd.R_far (p := ⟨gb237, 0, none⟩) (Kd.R_mono HO_7.out (fun k_ hk => (⟨hk, hk.2⟩ : _ ∧ k_ ≠ gb237))) (fun _ hk => hk.2) (.int .i64 ((rd_T25 l0 x41_3).f0))) (fun _ hk => hk.2) (.int .u64 ((rd_T25 l0 x41_3).f1))) (fun _ hk => hk.2) (.int .u64 ((rd_T25 l0 x41_3).f2))) (fun _ hk => ⟨hk.1.1.1, ⟨hk.1.1.2, hk.1.2⟩⟩)⟩, ⟨by (with_reducible repeat (first | apply Kd.R_alloc | apply Kd.R_drewN | apply Kd.R_drew)); exact Kd.R_mono (Kd.R_far (p := ⟨gb237, 2, none⟩) (Kd.R_far (p := ⟨gb237, 1, none⟩) (Kd.R_far (p := ⟨gb237, 0, none⟩) (Kd.R_mono HO_8.out (fun k_ hk => (⟨hk, hk.2⟩ : _ ∧ k_ ≠ gb237))) (fun _ hk => hk.2) (.int .i64 ((rd_T25 l0 x41_3).f0))) (fun _ hk => hk.2) (.int .u64 ((rd_T25 l0 x41_3).f1))) (fun _ hk => hk.2) (.int .u64 ((rd_T25 l0 x41_3).f2))) (fun _ hk => ⟨hk.1.1.1, ⟨hk.1.1.2, hk.1.2⟩⟩)⟩, ⟨by (with_reducible repeat (first | apply Kd.R_alloc | apply Kd.R_drewN | apply Kd.R_drew)); exact Kd.R_mono (Kd.R_far (p := ⟨gb237, 2, none⟩) (Kd.R_far (p := ⟨gb237, 1, none⟩) (Kd.R_far (p := ⟨gb237, 0, none⟩) (Kd.R_mono HO_9.out (fun k_ hk => (⟨hk, hk.2⟩ : _ ∧ k_ ≠ gb237))) (fun _ hk => hk.2) (.int .i64 ((rd_T25 l0 x41_3).f0))) (fun _ hk => hk.2) (.int .u64 ((rd_T25 l0 x41_3).f1))) (fun _ hk => hk.2) (.int .u64 ((rd_T25 l0 x41_3).f2))) (fun _ hk => ⟨hk.1.1.1, ⟨hk.1.1.2, hk.1.2⟩⟩)⟩, ⟨by (with_reducible repeat (first | refine blk_drewN ?_ _ | refine blk_drew ?_ | refine blk_alloc ?_ _)); refine blk_put (cs := #[.int .i64 ((rd_T25 l0 x41_3).f0), .int .u64 ((rd_T25 l0 x41_3).f1), .int .u64 0]) ?_ 2 _ rfl; (with_reducible repeat (first | refine blk_drewN ?_ _ | refine blk_drew ?_ | refine blk_alloc ?_ _)); refine blk_put (cs := #[.int .i64 ((rd_T25 l0 x41_3).f0), .int .u64 0, .int .u64 0]) ?_ 1 _ rfl; (with_reducible repeat (first | refine blk_drewN ?_ _ | refine blk_drew ?_ | refine blk_alloc ?_ _)); refine blk_put (cs := #[.int .i64 0, .int .u64 0, .int .u64 0]) ?_ 0 _ rfl; (with_reducible repeat (first | refine blk_drewN ?_ _ | refine blk_drew ?_ | refine blk_alloc ?_ _)); exact BK237.out⟩, ⟨by repeat (first | (with_reducible first | exact HB.out | apply below_alloc | apply pw_below_drewN | apply below_drew1 | refine below_set ?_ GE237.out) | exact HB.out)⟩⟩
                      · rw [if_neg c28] at H
                        have c28b0 : decide (0 < a1) = false := decide_eq_false c28
                        clear c28
                        (first | rw [c28b0] | (simp only [i64_w, i32_w, xu32_w, xu8_w]; rw [c28b0]) | skip)
                        have H' := Aside0.mk H
                        clear H
                        go_wp2
                        go_meet
                        case rel => exact ⟨_, (wrap64 ((wrap64 ((l0.length : Int) - 1)) - x41_3)), (by first | rfl | (simp; done) | (simp [*]; done)), H', ⟨by have := HJ2.out; have := HK2.out; have := HK3.out; first | omega | exact Nat.le_refl _⟩, ⟨by (with_reducible repeat (first | apply Kd.R_alloc | apply Kd.R_drewN | apply Kd.R_drew)); exact Kd.R_mono (Kd.R_far (p := ⟨gb237, 2, none⟩) (Kd.R_far (p := ⟨gb237, 1, none⟩) (Kd.R_far (p := ⟨gb237, 0, none⟩) (Kd.R_mono HO_7.out (fun k_ hk => (⟨hk, hk.2⟩ : _ ∧ k_ ≠ gb237))) (fun _ hk => hk.2) (.int .i64 ((rd_T25 l0 x41_3).f0))) (fun _ hk => hk.2) (.int .u64 ((rd_T25 l0 x41_3).f1))) (fun _ hk => hk.2) (.int .u64 ((rd_T25 l0 x41_3).f2))) (fun _ hk => ⟨hk.1.1.1, ⟨hk.1.1.2, hk.1.2⟩⟩)⟩, ⟨by (with_reducible repeat (first | apply Kd.R_alloc | apply Kd.R_drewN | apply Kd.R_drew)); exact Kd.R_mono (Kd.R_far (p := ⟨gb237, 2, none⟩) (Kd.R_far (p := ⟨gb237, 1, none⟩) (Kd.R_far (p := ⟨gb237, 0, none⟩) (Kd.R_mono HO_8.out (fun k_ hk => (⟨hk, hk.2⟩ : _ ∧ k_ ≠ gb237))) (fun _ hk => hk.2) (.int .i64 ((rd_T25 l0 x41_3).f0))) (fun _ hk => hk.2) (.int .u64 ((rd_T25 l0 x41_3).f1))) (fun _ hk => hk.2) (.int .u64 ((rd_T25 l0 x41_3).f2))) (fun _ hk => ⟨hk.1.1.1, ⟨hk.1.1.2, hk.1.2⟩⟩)⟩, ⟨by (with_reducible repeat (first | apply Kd.R_alloc | apply Kd.R_drewN | apply Kd.R_drew)); exact Kd.R_mono (Kd.R_far (p := ⟨gb237, 2, none⟩) (Kd.R_far (p := ⟨gb237, 1, none⟩) (Kd.R_far (p := ⟨gb237, 0, none⟩) (Kd.R_mono HO_9.out (fun k_ hk => (⟨hk, hk.2⟩ : _ ∧ k_ ≠ gb237))) (fun _ hk => hk.2) (.int .i64 ((rd_T25 l0 x41_3).f0))) (fun _ hk => hk.2) (.int .u64 ((rd_T25 l0 x41_3).f1))) (fun _ hk => hk.2) (.int .u64 ((rd_T25 l0 x41_3).f2))) (fun _ hk => ⟨hk.1.1.1, ⟨hk.1.1.2, hk.1.2⟩⟩)⟩, ⟨by (with_reducible repeat (first | refine blk_drewN ?_ _ | refine blk_drew ?_ | refine blk_alloc ?_ _)); refine blk_put (cs := #[.int .i64 ((rd_T25 l0 x41_3).f0), .int .u64 ((rd_T25 l0 x41_3).f1), .int .u64 0]) ?_ 2 _ rfl; (with_reducible repeat (first | refine blk_drewN ?_ _ | refine blk_drew ?_ | refine blk_alloc ?_ _)); refine blk_put (cs := #[.int .i64 ((rd_T25 l0 x41_3).f0), .int .u64 0, .int .u64 0]) ?_ 1 _ rfl; (with_reducible repeat (first | refine blk_drewN ?_ _ | refine blk_drew ?_ | refine blk_alloc ?_ _)); refine blk_put (cs := #[.int .i64 0, .int .u64 0, .int .u64 0]) ?_ 0 _ rfl; (with_reducible repeat (first | refine blk_drewN ?_ _ | refine blk_drew ?_ | refine blk_alloc ?_ _)); exact BK237.out⟩, ⟨by repeat (first | (with_reducible first | exact HB.out | apply below_alloc | apply pw_below_drewN | apply below_drew1 | refine below_set ?_ GE237.out) | exact HB.out)⟩⟩
                    case rest =>
                      clear HC25
                      try clear c1
                      try clear c2
                      try clear p2
                      try clear q2
                      try clear hx2
                      try clear c5
                      try clear p6
                      try clear c7
                      try clear c10
                      try clear c12
                      try clear c14
                      try clear c14b0
                      try clear c15
                      try clear c15b0
                      try clear c16
                      try clear c16b0
                      try clear c17
                      try clear c17b0
                      try clear c17b1
                      try clear c22
                      try clear c22b0
                      try clear c23
                      try clear c23b0
                      try clear p23
                      try clear q23
                      try clear hx23
                      try clear c24
                      try clear c24b0
                      try clear c28
                      try clear c28b0
                      try clear c29
                      try clear c29b0
                      try clear c29b1
                      try clear c29b2
                      try clear hcz19_0
                      try clear hcz19_1
                      try clear hcz19_2
                      try clear hcz21_0
                      try clear hcz21_1
                      try clear hcz21_2
                      try clear hcz27_0
                      try clear hcz27_1
                      try clear hcz27_2
                      try clear hfz19_0
                      try clear hfz19_1
                      try clear hfz19_2
                      try clear hfz21_0
                      try clear hfz21_1
                      try clear hfz21_2
                      try clear hfz27_0
                      try clear hfz27_1
                      try clear hfz27_2
                      try clear hx234_0
                      try clear hx234_1
                      try clear hx234_2
                      try clear hx236_0
                      try clear hx236_1
                      try clear hx236_2
                      try clear p2
                      try clear p234
                      try clear p236
                      try clear p6
                      try clear q2
                      try clear q234
                      try clear q236
                      obtain ⟨kq, x12_24, rfl, HA, HJ24, HO_7, HO_8, HO_9, BK237, HB⟩ := hcut
                      cases kq with
                      | zero => exact absurd HA.out (by simp [manometerlaw09_PointsFolds.j3])
                      | succ kj24 =>
                        have H := HA.out
                        clear HA
                        simp only [manometerlaw09_PointsFolds.j3] at H
                        replace H := Option.bind_eq_some_iff.mp H
                        obtain ⟨⟨t238, t241, t242⟩, A300, H⟩ := H
                        replace H : (if 0 ≤ x12_24 then (if x12_24 < (l0.length : Int) then ((points_Put.f kj24 x8_3 ((rd_T25 l0 x12_24).f0) ((rd_T25 l0 x12_24).f1) ((rd_T25 l0 x12_24).f2)).bind fun bt244 => ((points_Merge.f kj24 x9_3 (([(⟨((rd_T25 l0 x41_3).f0), ((rd_T25 l0 x41_3).f1), ((rd_T25 l0 x41_3).f2)⟩ : S25)] : List (S25)))).bind fun bt252 => (if t242 = 0 then (if bt244.2.2 = 0 then (if bt252.2 = 0 then ((points_Right.f kj24 t238).bind fun t256 => (manometerlaw09_PointsFolds.j4 kj24 l0 a1 t238 bt244.1 bt252.1 l0 (l0.length : Int) x41_3 (!t256))) else (manometerlaw09_PointsFolds.j4 kj24 l0 a1 t238 bt244.1 bt252.1 l0 (l0.length : Int) x41_3 true)) else (manometerlaw09_PointsFolds.j4 kj24 l0 a1 t238 bt244.1 bt252.1 l0 (l0.length : Int) x41_3 true)) else (manometerlaw09_PointsFolds.j4 kj24 l0 a1 t238 bt244.1 bt252.1 l0 (l0.length : Int) x41_3 true)))) else (none)) else (none)) = some r := H
                        have A30 := Aside0.mk A300
                        clear A300
                        by_cases c31 : 0 ≤ x12_24
                        rotate_left
                        · rw [if_neg c31] at H
                          exact absurd H (by simp)
                        rw [if_pos c31] at H
                        have c31b0 : decide (0 ≤ x12_24) = true := decide_eq_true c31
                        clear c31
                        by_cases c32 : x12_24 < (l0.length : Int)
                        rotate_left
                        · rw [if_neg c32] at H
                          exact absurd H (by simp)
                        rw [if_pos c32] at H
                        have c32b0 : decide (x12_24 < (l0.length : Int)) = true := decide_eq_true c32
                        clear c32
                        replace H := Option.bind_eq_some_iff.mp H
                        obtain ⟨⟨t244, t247, t248⟩, A330, H⟩ := H
                        replace H : ((points_Merge.f kj24 x9_3 (([(⟨((rd_T25 l0 x41_3).f0), ((rd_T25 l0 x41_3).f1), ((rd_T25 l0 x41_3).f2)⟩ : S25)] : List (S25)))).bind fun bt252 => (if t242 = 0 then (if t248 = 0 then (if bt252.2 = 0 then ((points_Right.f kj24 t238).bind fun t256 => (manometerlaw09_PointsFolds.j4 kj24 l0 a1 t238 t244 bt252.1 l0 (l0.length : Int) x41_3 (!t256))) else (manometerlaw09_PointsFolds.j4 kj24 l0 a1 t238 t244 bt252.1 l0 (l0.length : Int) x41_3 true)) else (manometerlaw09_PointsFolds.j4 kj24 l0 a1 t238 t244 bt252.1 l0 (l0.length : Int) x41_3 true)) else (manometerlaw09_PointsFolds.j4 kj24 l0 a1 t238 t244 bt252.1 l0 (l0.length : Int) x41_3 true))) = some r := H
                        have A33 := Aside0.mk A330
                        clear A330
                        obtain ⟨y249, hy249⟩ : ∃ y_ : List (S25), y_ = (([(⟨((rd_T25 l0 x41_3).f0), ((rd_T25 l0 x41_3).f1), ((rd_T25 l0 x41_3).f2)⟩ : S25)] : List (S25))) := ⟨_, rfl⟩
                        replace H : ((points_Merge.f kj24 x9_3 y249).bind fun bt252 => (if t242 = 0 then (if t248 = 0 then (if bt252.2 = 0 then ((points_Right.f kj24 t238).bind fun t256 => (manometerlaw09_PointsFolds.j4 kj24 l0 a1 t238 t244 bt252.1 l0 (l0.length : Int) x41_3 (!t256))) else (manometerlaw09_PointsFolds.j4 kj24 l0 a1 t238 t244 bt252.1 l0 (l0.length : Int) x41_3 true)) else (manometerlaw09_PointsFolds.j4 kj24 l0 a1 t238 t244 bt252.1 l0 (l0.length : Int) x41_3 true)) else (manometerlaw09_PointsFolds.j4 kj24 l0 a1 t238 t244 bt252.1 l0 (l0.length : Int) x41_3 true))) = some r := by first | (rw [hy249]; with_reducible exact H) | (have H2_ := (Option.bind_some _ _).symm.trans H; rw [hy249]; with_reducible exact H2_) | (have H2_ := (Option.bind_some _ _).symm.trans H; with_reducible exact H2_) | with_reducible exact H | (rw [hy249]; exact H) | exact H
                        have Ny249 := Aside0.mk hy249
                        clear hy249
                        replace H := Option.bind_eq_some_iff.mp H
                        obtain ⟨⟨t252, t255⟩, A340, H⟩ := H
                        replace H : (if t242 = 0 then (if t248 = 0 then (if t255 = 0 then ((points_Right.f kj24 t238).bind fun t256 => (manometerlaw09_PointsFolds.j4 kj24 l0 a1 t238 t244 t252 l0 (l0.length : Int) x41_3 (!t256))) else (manometerlaw09_PointsFolds.j4 kj24 l0 a1 t238 t244 t252 l0 (l0.length : Int) x41_3 true)) else (manometerlaw09_PointsFolds.j4 kj24 l0 a1 t238 t244 t252 l0 (l0.length : Int) x41_3 true)) else (manometerlaw09_PointsFolds.j4 kj24 l0 a1 t238 t244 t252 l0 (l0.length : Int) x41_3 true)) = some r := H
                        have A34 := Aside0.mk A340
                        clear A340
                        have HC35 := Aside0.mk H
                        clear H
                        have hcz36_0 : wc.cell? ⟨gb237, 0, none⟩ = some (.int .i64 ((rd_T25 l0 x41_3).f0)) := (blk_cell BK237.out 0).trans rfl
                        have hcz36_1 : wc.cell? ⟨gb237, 1, none⟩ = some (.int .u64 ((rd_T25 l0 x41_3).f1)) := (blk_cell BK237.out 1).trans rfl
                        have hcz36_2 : wc.cell? ⟨gb237, 2, none⟩ = some (.int .u64 ((rd_T25 l0 x41_3).f2)) := (blk_cell BK237.out 2).trans rfl
                        have hfz36_0 := blk_frozen BK237.out 0
                        have hfz36_1 := blk_frozen BK237.out 1
                        have hfz36_2 := blk_frozen BK237.out 2
                        obtain ⟨Ao37, co37, eo37⟩ := Kd.R_slice HO_7.out
                        subst eo37
                        go_upto_region 20 with (first | ((with_reducible refine gate_callee (f := 21) rfl ?_); refine goesL_ (some 65) rfl rfl Try.func21 (by kernel_rfl) rfl #[.slice Ao37 x7_3.length co37, .agg #[.int .i64 ((rd_T25 l0 x41_3).f0), .int .u64 ((rd_T25 l0 x41_3).f1), .int .u64 ((rd_T25 l0 x41_3).f2)]] rfl (by (try simp only [List.map_toArray, List.map_cons, List.map_nil]); first | done | rfl | (simp only [List.length_drop, List.length_take]; rfl)) ?_; (with_reducible refine (points_Put.calls kj24 (fun k_ => some k_ = (.slice Ao37 x7_3.length co37 : Value).ownBlock) (.slice Ao37 x7_3.length co37) x7_3 ((rd_T25 l0 x41_3).f0) ((rd_T25 l0 x41_3).f1) ((rd_T25 l0 x41_3).f2) t238 t241 t242 w _ ?side1 ?side2 A30.out).mono ?_); (case side1 => repeat (first | (with_reducible first | exact HB.out | apply below_alloc | apply pw_below_drewN | apply below_drew1 | refine below_set ?_ GE237.out) | exact HB.out)); (case side2 => exact Kd.R_tight rfl HO_7.out); rintro e w38 ⟨v239, rfl, ho0, hb, hkp⟩; refine ⟨_, rfl, ?_⟩; have n0_ := Aside0.mk (Kd.R_mono (ok' := fun k_ => some k_ ≠ (u9 : Value).ownBlock ∧ k_ ≠ gb237 ∧ some k_ ≠ (v239 : Value).ownBlock) (Kd.R_keptB (HO_8.out) hkp (fun k_ hk_ hs_ => (hk_.1) hs_)) (fun k_ hk_ => ⟨hk_.1.2.1, hk_.1.2.2, fun e_ => Or.elim (ho0.1 k_ e_.symm) (fun hs_ => hk_.2.1 hs_) (fun hn_ => Nat.not_le.2 hk_.2.2 hn_)⟩)); have n1_ := Aside0.mk (Kd.R_mono (ok' := fun k_ => some k_ ≠ (u8 : Value).ownBlock ∧ k_ ≠ gb237 ∧ some k_ ≠ (v239 : Value).ownBlock) (Kd.R_keptB (HO_9.out) hkp (fun k_ hk_ hs_ => (hk_.1) hs_)) (fun k_ hk_ => ⟨hk_.1.2.1, hk_.1.2.2, fun e_ => Or.elim (ho0.1 k_ e_.symm) (fun hs_ => hk_.2.1 hs_) (fun hn_ => Nat.not_le.2 hk_.2.2 hn_)⟩)); have n2_ := Aside0.mk (blk_kept (by (with_reducible repeat (first | refine blk_drewN ?_ _ | refine blk_drew ?_ | refine blk_alloc ?_ _)); exact BK237.out) hkp (fun hs_ => (fun e_ => (Kd.R_away HO_7.out (fun _ hk => hk.2.2)) e_) hs_)); have n3_ := Aside0.mk (Kd.R_mono (ok' := fun k_ => some k_ ≠ (u8 : Value).ownBlock ∧ some k_ ≠ (u9 : Value).ownBlock ∧ k_ ≠ gb237) ho0 (fun k_ hk_ => ⟨Or.elim hk_ (fun hs_ => fun e_ => (((HO_8.out).1 k_ e_.symm).1) hs_) (fun hn_ => (Kd.fresh' (Kd.R_lt (by (with_reducible repeat (first | apply Kd.R_alloc | apply Kd.R_drewN | apply Kd.R_drew)); exact HO_8.out)) k_ hn_)), Or.elim hk_ (fun hs_ => fun e_ => (((HO_9.out).1 k_ e_.symm).1) hs_) (fun hn_ => (Kd.fresh' (Kd.R_lt (by (with_reducible repeat (first | apply Kd.R_alloc | apply Kd.R_drewN | apply Kd.R_drew)); exact HO_9.out)) k_ hn_)), Or.elim hk_ (fun hs_ => fun e_ => (Kd.R_away HO_7.out (fun _ hk => hk.2.2)) (by rw [← e_]; exact hs_)) (fun hn_ => (Kd.freshB (g := gb237) (o := .cells #[.int .i64 ((rd_T25 l0 x41_3).f0), .int .u64 ((rd_T25 l0 x41_3).f1), .int .u64 ((rd_T25 l0 x41_3).f2)] 25 (0, 0)) (by (with_reducible repeat (first | refine blk_drewN ?_ _ | refine blk_drew ?_ | refine blk_alloc ?_ _)); exact BK237.out) k_ hn_))⟩)); have n4_ := Aside0.mk (hb); clear HO_8; clear HO_9; clear BK237; clear HB; clear HO_7; have HO_8 := n0_; have HO_9 := n1_; have BK237 := n2_; have HO240 := n3_; have HB := n4_; clear n0_ n1_ n2_ n3_ n4_; (try clear hb); (try clear hkp); (try clear ho0); have p243 : 0 ≤ (x12_24 : Int) := of_decide_eq_true (by first | (with_reducible assumption) | assumption); have q243 : x12_24 < (l0.length : Int) := of_decide_eq_true (by first | (with_reducible assumption) | assumption); obtain ⟨ad243, e243, hx243_0, hx243_1, hx243_2⟩ := at_T25 HR0.out x12_24 p243 q243; obtain rfl : ad236 = ad243 := (by injection e243); replace hx243_0 := (HB.out.cell (World.block_lt_of_cell? w _ hx243_0)).trans hx243_0; replace hx243_1 := (HB.out.cell (World.block_lt_of_cell? w _ hx243_1)).trans hx243_1; replace hx243_2 := (HB.out.cell (World.block_lt_of_cell? w _ hx243_2)).trans hx243_2; replace p243 := eq_true p243; replace q243 := eq_true q243; obtain ⟨Ao39, co39, eo39⟩ := Kd.R_slice HO_8.out; subst eo39) | ((with_reducible refine gate_callee (f := 21) rfl ?_); refine goesL_ (some 75) rfl rfl Try.func21 (by kernel_rfl) rfl #[.slice Ao39 x8_3.length co39, .agg #[.int .i64 ((rd_T25 l0 x12_24).f0), .int .u64 ((rd_T25 l0 x12_24).f1), .int .u64 ((rd_T25 l0 x12_24).f2)]] rfl (by (try simp only [List.map_toArray, List.map_cons, List.map_nil]); first | done | rfl | (simp only [List.length_drop, List.length_take]; rfl)) ?_; (with_reducible refine (points_Put.calls kj24 (fun k_ => some k_ = (.slice Ao39 x8_3.length co39 : Value).ownBlock) (.slice Ao39 x8_3.length co39) x8_3 ((rd_T25 l0 x12_24).f0) ((rd_T25 l0 x12_24).f1) ((rd_T25 l0 x12_24).f2) t244 t247 t248 w _ ?side1 ?side2 A33.out).mono ?_); (case side1 => repeat (first | (with_reducible first | exact HB.out | apply below_alloc | apply pw_below_drewN | apply below_drew1 | refine below_set ?_ GE237.out) | exact HB.out)); (case side2 => exact Kd.R_tight rfl HO_8.out); rintro e w40 ⟨v245, rfl, ho0, hb, hkp⟩; refine ⟨_, rfl, ?_⟩; have n0_ := Aside0.mk (Kd.R_mono (ok' := fun k_ => some k_ ≠ (v239 : Value).ownBlock ∧ k_ ≠ gb237 ∧ some k_ ≠ (v245 : Value).ownBlock) (Kd.R_keptB (HO_9.out) hkp (fun k_ hk_ hs_ => (hk_.1) hs_)) (fun k_ hk_ => ⟨hk_.1.2.2, hk_.1.2.1, fun e_ => Or.elim (ho0.1 k_ e_.symm) (fun hs_ => hk_.2.1 hs_) (fun hn_ => Nat.not_le.2 hk_.2.2 hn_)⟩)); have n1_ := Aside0.mk (blk_kept (by (with_reducible repeat (first | refine blk_drewN ?_ _ | refine blk_drew ?_ | refine blk_alloc ?_ _)); exact BK237.out) hkp (fun hs_ => (fun e_ => (Kd.R_away HO_8.out (fun _ hk => hk.2.1)) e_) hs_)); have n2_ := Aside0.mk (Kd.R_mono (ok' := fun k_ => some k_ ≠ (u9 : Value).ownBlock ∧ k_ ≠ gb237 ∧ some k_ ≠ (v245 : Value).ownBlock) (Kd.R_keptB (HO240.out) hkp (fun k_ hk_ hs_ => (hk_.1) hs_)) (fun k_ hk_ => ⟨hk_.1.2.1, hk_.1.2.2, fun e_ => Or.elim (ho0.1 k_ e_.symm) (fun hs_ => hk_.2.1 hs_) (fun hn_ => Nat.not_le.2 hk_.2.2 hn_)⟩)); have n3_ := Aside0.mk (Kd.R_mono (ok' := fun k_ => some k_ ≠ (u9 : Value).ownBlock ∧ some k_ ≠ (v239 : Value).ownBlock ∧ k_ ≠ gb237) ho0 (fun k_ hk_ => ⟨Or.elim hk_ (fun hs_ => fun e_ => (((HO_9.out).1 k_ e_.symm).1) hs_) (fun hn_ => (Kd.fresh' (Kd.R_lt (by (with_reducible repeat (first | apply Kd.R_alloc | apply Kd.R_drewN | apply Kd.R_drew)); exact HO_9.out)) k_ hn_)), Or.elim hk_ (fun hs_ => fun e_ => (((HO240.out).1 k_ e_.symm).1) hs_) (fun hn_ => (Kd.fresh' (Kd.R_lt (by (with_reducible repeat (first | apply Kd.R_alloc | apply Kd.R_drewN | apply Kd.R_drew)); exact HO240.out)) k_ hn_)), Or.elim hk_ (fun hs_ => fun e_ => (Kd.R_away HO_8.out (fun _ hk => hk.2.1)) (by rw [← e_]; exact hs_)) (fun hn_ => (Kd.freshB (g := gb237) (o := .cells #[.int .i64 ((rd_T25 l0 x41_3).f0), .int .u64 ((rd_T25 l0 x41_3).f1), .int .u64 ((rd_T25 l0 x41_3).f2)] 25 (0, 0)) (by (with_reducible repeat (first | refine blk_drewN ?_ _ | refine blk_drew ?_ | refine blk_alloc ?_ _)); exact BK237.out) k_ hn_))⟩)); have n4_ := Aside0.mk (hb); clear HO_9; clear BK237; clear HO240; clear HB; clear HO_8; have HO_9 := n0_; have BK237 := n1_; have HO240 := n2_; have HO246 := n3_; have HB := n4_; clear n0_ n1_ n2_ n3_ n4_; (try clear hb); (try clear hkp); (try clear ho0); have hcz41_0 : w40.cell? ⟨gb237, 0, none⟩ = some (.int .i64 ((rd_T25 l0 x41_3).f0)) := (blk_cell BK237.out 0).trans rfl; have hcz41_1 : w40.cell? ⟨gb237, 1, none⟩ = some (.int .u64 ((rd_T25 l0 x41_3).f1)) := (blk_cell BK237.out 1).trans rfl; have hcz41_2 : w40.cell? ⟨gb237, 2, none⟩ = some (.int .u64 ((rd_T25 l0 x41_3).f2)) := (blk_cell BK237.out 2).trans rfl; have hfz41_0 := blk_frozen BK237.out 0; have hfz41_1 := blk_frozen BK237.out 1; have hfz41_2 := blk_frozen BK237.out 2) | ((with_reducible refine gate_dst (N := 82) rfl ?_); (try (refine gate_guard (by rfl) ?_; dsimp only)); refine Kd.R_lit k25 _ 25 ?hg (N := 82) ?hd (xs := ([(⟨((rd_T25 l0 x41_3).f0), ((rd_T25 l0 x41_3).f1), ((rd_T25 l0 x41_3).f2)⟩ : S25)] : List (S25))) (inner := [.int .i64 ((rd_T25 l0 x41_3).f0), .int .u64 ((rd_T25 l0 x41_3).f1), .int .u64 ((rd_T25 l0 x41_3).f2)]) (ok := fun _ => True) (okp := fun _ => True) ?hr ?hp (fun _ hk => hk) trivial (Below.refl _ _) (Nat.le_refl _) (by simp) ?_; (case hd => rfl); (case hg => rfl); (case hr => first | (go_simp; done) | (go_simp; rfl)); (case hp => exact (Reps.c3 (show Kd.M k25 _ _ _ (⟨((rd_T25 l0 x41_3).f0), ((rd_T25 l0 x41_3).f1), ((rd_T25 l0 x41_3).f2)⟩ : S25) [.int .i64 ((rd_T25 l0 x41_3).f0), .int .u64 ((rd_T25 l0 x41_3).f1), .int .u64 ((rd_T25 l0 x41_3).f2)] from (k25_mkM _ _ _ (⟨((rd_T25 l0 x41_3).f0), ((rd_T25 l0 x41_3).f1), ((rd_T25 l0 x41_3).f2)⟩ : S25) )) (Reps.none _ _))); intro v250 w42 ho43 hb hg_ hnew_; clear hg_ hnew_; (first | rw [← Ny249.out] at ho43 | (simp only [Int.reduceToNat] at ho43; rw [← Ny249.out] at ho43)); have n0_ := Aside0.mk (Kd.R_elder' (by (with_reducible repeat (first | apply Kd.R_alloc | apply Kd.R_drewN | apply Kd.R_drew)); exact HO_9.out) (Kd.R_base ho43) hb); have n1_ := Aside0.mk (Kd.R_elder' (by (with_reducible repeat (first | apply Kd.R_alloc | apply Kd.R_drewN | apply Kd.R_drew)); exact HO240.out) (Kd.R_base ho43) hb); have n2_ := Aside0.mk (Kd.R_elder' (by (with_reducible repeat (first | apply Kd.R_alloc | apply Kd.R_drewN | apply Kd.R_drew)); exact HO246.out) (Kd.R_base ho43) hb); have n3_ := Aside0.mk (Kd.R_lower (Kd.R_newB (Kd.R_new' (Kd.R_new' (Kd.R_new' ho43 (Kd.R_lt (by (with_reducible repeat (first | apply Kd.R_alloc | apply Kd.R_drewN | apply Kd.R_drew)); exact HO_9.out))) (Kd.R_lt (by (with_reducible repeat (first | apply Kd.R_alloc | apply Kd.R_drewN | apply Kd.R_drew)); exact HO240.out))) (Kd.R_lt (by (with_reducible repeat (first | apply Kd.R_alloc | apply Kd.R_drewN | apply Kd.R_drew)); exact HO246.out))) (g := gb237) (o := .cells #[.int .i64 ((rd_T25 l0 x41_3).f0), .int .u64 ((rd_T25 l0 x41_3).f1), .int .u64 ((rd_T25 l0 x41_3).f2)] 25 (0, 0)) (by (with_reducible repeat (first | refine blk_drewN ?_ _ | refine blk_drew ?_ | refine blk_alloc ?_ _)); exact BK237.out)) (below_size (by repeat (first | (with_reducible first | exact HB.out | apply below_alloc | apply pw_below_drewN | apply below_drew1 | refine below_set ?_ GE237.out) | exact HB.out)))); have n4_ := Aside0.mk (blk_below (g := gb237) (o := .cells #[.int .i64 ((rd_T25 l0 x41_3).f0), .int .u64 ((rd_T25 l0 x41_3).f1), .int .u64 ((rd_T25 l0 x41_3).f2)] 25 (0, 0)) (by (with_reducible repeat (first | refine blk_drewN ?_ _ | refine blk_drew ?_ | refine blk_alloc ?_ _)); exact BK237.out) hb); have n5_ := Aside0.mk (below_step (by repeat (first | (with_reducible first | exact HB.out | apply below_alloc | apply pw_below_drewN | apply below_drew1 | refine below_set ?_ GE237.out) | exact HB.out)) hb); clear HO_9; clear HO240; clear HO246; clear BK237; clear HB; have HO_9 := n0_; have HO240 := n1_; have HO246 := n2_; have HO251 := n3_; have BK237 := n4_; have HB := n5_; clear n0_ n1_ n2_ n3_ n4_ n5_; clear hb ho43; obtain ⟨Ao44, co44, eo44⟩ := Kd.R_slice HO_9.out; subst eo44; obtain ⟨Ao45, co45, eo45⟩ := Kd.R_slice HO251.out; subst eo45) | ((with_reducible refine gate_callee (f := 32) rfl ?_); refine goesL_ (some 83) rfl rfl Try.func32 (by kernel_rfl) rfl #[.slice Ao44 x9_3.length co44, .slice Ao45 y249.length co45] rfl (by (try simp only [List.map_toArray, List.map_cons, List.map_nil]); first | done | rfl | (simp only [List.length_drop, List.length_take]; rfl)) ?_; (with_reducible refine (points_Merge.calls kj24 (fun k_ => some k_ = (.slice Ao44 x9_3.length co44 : Value).ownBlock) _ _ x9_3 (fun k_ => some k_ = (.slice Ao45 y249.length co45 : Value).ownBlock) _ _ y249 t252 t255 _ ?side1 ?side2 A34.out).mono ?_); (case side1 => exact Kd.R_V (Kd.R_tight rfl (HO_9.out))); (case side2 => exact Kd.R_V (Kd.R_tight rfl (HO251.out))); rintro e w46 ⟨v253, rfl, ho0, hb⟩; refine ⟨_, rfl, ?_⟩; have n0_ := Aside0.mk (Kd.R_elder' (by (with_reducible repeat (first | apply Kd.R_alloc | apply Kd.R_drewN | apply Kd.R_drew)); exact HO_9.out) (Kd.R_base ho0) hb); have n1_ := Aside0.mk (Kd.R_elder' (by (with_reducible repeat (first | apply Kd.R_alloc | apply Kd.R_drewN | apply Kd.R_drew)); exact HO240.out) (Kd.R_base ho0) hb); have n2_ := Aside0.mk (Kd.R_elder' (by (with_reducible repeat (first | apply Kd.R_alloc | apply Kd.R_drewN | apply Kd.R_drew)); exact HO246.out) (Kd.R_base ho0) hb); have n3_ := Aside0.mk (Kd.R_elder' (by (with_reducible repeat (first | apply Kd.R_alloc | apply Kd.R_drewN | apply Kd.R_drew)); exact HO251.out) (Kd.R_base ho0) hb); have n4_ := Aside0.mk (Kd.R_lower (Kd.R_newB (Kd.R_new' (Kd.R_new' (Kd.R_new' (Kd.R_new' (Kd.R_mono (ok' := fun k_ => True) ho0 (fun _ hk_ => trivial)) (Kd.R_lt (by (with_reducible repeat (first | apply Kd.R_alloc | apply Kd.R_drewN | apply Kd.R_drew)); exact HO_9.out))) (Kd.R_lt (by (with_reducible repeat (first | apply Kd.R_alloc | apply Kd.R_drewN | apply Kd.R_drew)); exact HO240.out))) (Kd.R_lt (by (with_reducible repeat (first | apply Kd.R_alloc | apply Kd.R_drewN | apply Kd.R_drew)); exact HO246.out))) (Kd.R_lt (by (with_reducible repeat (first | apply Kd.R_alloc | apply Kd.R_drewN | apply Kd.R_drew)); exact HO251.out))) (g := gb237) (o := .cells #[.int .i64 ((rd_T25 l0 x41_3).f0), .int .u64 ((rd_T25 l0 x41_3).f1), .int .u64 ((rd_T25 l0 x41_3).f2)] 25 (0, 0)) (by (with_reducible repeat (first | refine blk_drewN ?_ _ | refine blk_drew ?_ | refine blk_alloc ?_ _)); exact BK237.out)) (below_size (by repeat (first | (with_reducible first | exact HB.out | apply below_alloc | apply pw_below_drewN | apply below_drew1 | refine below_set ?_ GE237.out) | exact HB.out)))); have n5_ := Aside0.mk (blk_below (g := gb237) (o := .cells #[.int .i64 ((rd_T25 l0 x41_3).f0), .int .u64 ((rd_T25 l0 x41_3).f1), .int .u64 ((rd_T25 l0 x41_3).f2)] 25 (0, 0)) (by (with_reducible repeat (first | refine blk_drewN ?_ _ | refine blk_drew ?_ | refine blk_alloc ?_ _)); exact BK237.out) hb); have n6_ := Aside0.mk (below_step (by repeat (first | (with_reducible first | exact HB.out | apply below_alloc | apply pw_below_drewN | apply below_drew1 | refine below_set ?_ GE237.out) | exact HB.out)) hb); clear HO_9; clear HO240; clear HO246; clear HO251; clear BK237; clear HB; have HO_9 := n0_; have HO240 := n1_; have HO246 := n2_; have HO251 := n3_; have HO254 := n4_; have BK237 := n5_; have HB := n6_; clear n0_ n1_ n2_ n3_ n4_ n5_ n6_; (try clear hb); (try clear hb2); (try clear hk); (try clear hi); (try clear ho0)))
                        (try simp only [Act.put, List.setIfInBounds_toArray, List.set_cons_zero, List.set_cons_succ])
                        go_cut [100] (fun v100 wc => ∃ (kq : Nat) (x100_34 : Bool), v100 = .bool x100_34 ∧ Aside0 (manometerlaw09_PointsFolds.j4 kq l0 a1 t238 t244 t252 l0 (l0.length : Int) x41_3 x100_34 = some r) ∧ Aside0 (kq ≤ kj24) ∧ Aside0 (Kd.R k25 25 wc w.heap.size (fun k_ => some k_ ≠ (v245 : Value).ownBlock ∧ some k_ ≠ (v253 : Value).ownBlock ∧ k_ ≠ gb237) v239 t238) ∧ Aside0 (Kd.R k25 25 wc w.heap.size (fun k_ => some k_ ≠ (v239 : Value).ownBlock ∧ some k_ ≠ (v253 : Value).ownBlock ∧ k_ ≠ gb237) v245 t244) ∧ Aside0 (Kd.R k25 25 wc w.heap.size (fun k_ => some k_ ≠ (v239 : Value).ownBlock ∧ some k_ ≠ (v245 : Value).ownBlock ∧ k_ ≠ gb237) v253 t252) ∧ Aside0 (wc.heap[gb237]? = some (.cells #[.int .i64 ((rd_T25 l0 x41_3).f0), .int .u64 ((rd_T25 l0 x41_3).f1), .int .u64 ((rd_T25 l0 x41_3).f2)] 25 (0, 0))) ∧ Aside0 (Below w.heap.size w wc))
                        case first =>
                          have H := HC35.out
                          clear HC35
                          by_cases c47 : t242 = 0
                          · rw [if_pos c47] at H
                            have c47b0 : (t242 == 0) = true := beq_iff_eq.mpr c47
                            have c47b1 : (t242 != 0) = false := bne_eq_false_iff_eq.mpr c47
                            have EQc47 := Aside0.mk c47
                            clear c47
                            (first | rw [c47b0] | (simp only [i64_w, i32_w, xu32_w, xu8_w]; rw [c47b0]) | skip)
                            by_cases c48 : t248 = 0
                            · rw [if_pos c48] at H
                              have c48b0 : (t248 == 0) = true := beq_iff_eq.mpr c48
                              have c48b1 : (t248 != 0) = false := bne_eq_false_iff_eq.mpr c48
                              have EQc48 := Aside0.mk c48
                              clear c48
                              by_cases c49 : t255 = 0
                              · rw [if_pos c49] at H
                                have c49b0 : (t255 == 0) = true := beq_iff_eq.mpr c49
                                have c49b1 : (t255 != 0) = false := bne_eq_false_iff_eq.mpr c49
                                have EQc49 := Aside0.mk c49
                                clear c49
                                replace H := Option.bind_eq_some_iff.mp H
                                obtain ⟨t256, A500, H⟩ := H
                                replace H : (manometerlaw09_PointsFolds.j4 kj24 l0 a1 t238 t244 t252 l0 (l0.length : Int) x41_3 (!t256)) = some r := H
                                have A50 := Aside0.mk A500
                                clear A500
                                have H' := Aside0.mk H
                                clear H
                                obtain ⟨Ao51, co51, eo51⟩ := Kd.R_slice HO240.out
                                subst eo51
                                go_wp2_with (first | (go_at_call 14; (with_reducible refine (points_Right.calls kj24 _ _ t238 t256 _ ?side1 ?side2 A50.out).mono ?_); (case side1 => repeat (first | exact (Kd.R_reads' HO240.out).2.2 | (with_reducible refine Kd.C_alloc ?_ _) | (with_reducible refine Kd.C_drewN ?_ _) | (with_reducible refine Kd.C_drew ?_))); (case side2 => exact (Kd.R_reads' HO240.out).2.1); rintro e w52 ⟨rfl, hb⟩; have n0_ := Aside0.mk (Kd.R_below (by (with_reducible repeat (first | apply Kd.R_alloc | apply Kd.R_drewN | apply Kd.R_drew)); exact HO_9.out) hb); have n1_ := Aside0.mk (Kd.R_below (by (with_reducible repeat (first | apply Kd.R_alloc | apply Kd.R_drewN | apply Kd.R_drew)); exact HO240.out) hb); have n2_ := Aside0.mk (Kd.R_below (by (with_reducible repeat (first | apply Kd.R_alloc | apply Kd.R_drewN | apply Kd.R_drew)); exact HO246.out) hb); have n3_ := Aside0.mk (Kd.R_below (by (with_reducible repeat (first | apply Kd.R_alloc | apply Kd.R_drewN | apply Kd.R_drew)); exact HO251.out) hb); have n4_ := Aside0.mk (Kd.R_below (by (with_reducible repeat (first | apply Kd.R_alloc | apply Kd.R_drewN | apply Kd.R_drew)); exact HO254.out) hb); have n5_ := Aside0.mk (blk_below (g := gb237) (o := .cells #[.int .i64 ((rd_T25 l0 x41_3).f0), .int .u64 ((rd_T25 l0 x41_3).f1), .int .u64 ((rd_T25 l0 x41_3).f2)] 25 (0, 0)) (by (with_reducible repeat (first | refine blk_drewN ?_ _ | refine blk_drew ?_ | refine blk_alloc ?_ _)); exact BK237.out) hb); have n6_ := Aside0.mk (below_step (by repeat (first | (with_reducible first | exact HB.out | apply below_alloc | apply pw_below_drewN | apply below_drew1 | refine below_set ?_ GE237.out) | exact HB.out)) hb); clear HO_9; clear HO240; clear HO246; clear HO251; clear HO254; clear BK237; clear HB; have HO_9 := n0_; have HO240 := n1_; have HO246 := n2_; have HO251 := n3_; have HO254 := n4_; have BK237 := n5_; have HB := n6_; clear n0_ n1_ n2_ n3_ n4_ n5_ n6_; (try clear hb); (try clear hb2); (try clear hk); (try clear hi)))
                                obtain rfl := EQc47.out
                                obtain rfl := EQc48.out
                                obtain rfl := EQc49.out
                                go_meet
                                case rel => exact ⟨_, (!t256), (by first | rfl | (simp; done) | (simp [*]; done)), H', ⟨by have := HJ2.out; have := HK2.out; have := HK3.out; have := HJ24.out; first | omega | exact Nat.le_refl _⟩, ⟨by (with_reducible repeat (first | apply Kd.R_alloc | apply Kd.R_drewN | apply Kd.R_drew)); exact Kd.R_mono HO240.out (fun _ hk => ⟨hk.1.1.2.2, ⟨hk.2, hk.1.1.2.1⟩⟩)⟩, ⟨by (with_reducible repeat (first | apply Kd.R_alloc | apply Kd.R_drewN | apply Kd.R_drew)); exact Kd.R_mono HO246.out (fun _ hk => ⟨hk.1.1.2.1, ⟨hk.2, hk.1.1.2.2⟩⟩)⟩, ⟨by (with_reducible repeat (first | apply Kd.R_alloc | apply Kd.R_drewN | apply Kd.R_drew)); exact Kd.R_mono HO254.out (fun _ hk => ⟨hk.1.1.1.2, ⟨hk.1.1.2, hk.2⟩⟩)⟩, ⟨by (with_reducible repeat (first | refine blk_drewN ?_ _ | refine blk_drew ?_ | refine blk_alloc ?_ _)); exact BK237.out⟩, ⟨by repeat (first | (with_reducible first | exact HB.out | apply below_alloc | apply pw_below_drewN | apply below_drew1 | refine below_set ?_ GE237.out) | exact HB.out)⟩⟩
                              · rw [if_neg c49] at H
                                have c49b0 : (t255 == 0) = false := beq_eq_false_iff_ne.mpr c49
                                have c49b1 : (t255 != 0) = true := bne_iff_ne.mpr c49
                                have h_ := HT_r.out
                                subst h_
                                exact absurd H (by cases kj24 <;> simp [manometerlaw09_PointsFolds.j4])
                            · rw [if_neg c48] at H
                              have c48b0 : (t248 == 0) = false := beq_eq_false_iff_ne.mpr c48
                              have c48b1 : (t248 != 0) = true := bne_iff_ne.mpr c48
                              have h_ := HT_r.out
                              subst h_
                              exact absurd H (by cases kj24 <;> simp [manometerlaw09_PointsFolds.j4])
                          · rw [if_neg c47] at H
                            have c47b0 : (t242 == 0) = false := beq_eq_false_iff_ne.mpr c47
                            have c47b1 : (t242 != 0) = true := bne_iff_ne.mpr c47
                            (first | rw [c47b0] | (simp only [i64_w, i32_w, xu32_w, xu8_w]; rw [c47b0]) | skip)
                            have h_ := HT_r.out
                            subst h_
                            exact absurd H (by cases kj24 <;> simp [manometerlaw09_PointsFolds.j4])
                        case rest =>
                          clear HC35
                          try clear c1
                          try clear c2
                          try clear p2
                          try clear q2
                          try clear hx2
                          try clear c3
                          try clear c4
                          try clear c5
                          try clear p6
                          try clear c7
                          try clear c10
                          try clear c12
                          try clear c14
                          try clear c14b0
                          try clear c15
                          try clear c15b0
                          try clear c16
                          try clear c16b0
                          try clear c17
                          try clear c17b0
                          try clear c17b1
                          try clear c21
                          try clear c22
                          try clear c22b0
                          try clear c23
                          try clear c23b0
                          try clear p23
                          try clear q23
                          try clear hx23
                          try clear c24
                          try clear c24b0
                          try clear p24
                          try clear q24
                          try clear hx24
                          try clear c28
                          try clear c28b0
                          try clear c29
                          try clear c29b0
                          try clear c29b1
                          try clear c29b2
                          try clear c31
                          try clear c31b0
                          try clear c32
                          try clear c32b0
                          try clear c47
                          try clear c47b0
                          try clear c47b1
                          try clear c48
                          try clear c48b0
                          try clear c48b1
                          try clear c49
                          try clear c49b0
                          try clear c49b1
                          try clear hcz19_0
                          try clear hcz19_1
                          try clear hcz19_2
                          try clear hcz21_0
                          try clear hcz21_1
                          try clear hcz21_2
                          try clear hcz27_0
                          try clear hcz27_1
                          try clear hcz27_2
                          try clear hcz36_0
                          try clear hcz36_1
                          try clear hcz36_2
                          try clear hcz41_0
                          try clear hcz41_1
                          try clear hcz41_2
                          try clear hfz19_0
                          try clear hfz19_1
                          try clear hfz19_2
                          try clear hfz21_0
                          try clear hfz21_1
                          try clear hfz21_2
                          try clear hfz27_0
                          try clear hfz27_1
                          try clear hfz27_2
                          try clear hfz36_0
                          try clear hfz36_1
                          try clear hfz36_2
                          try clear hfz41_0
                          try clear hfz41_1
                          try clear hfz41_2
                          try clear hx234_0
                          try clear hx234_1
                          try clear hx234_2
                          try clear hx236_0
                          try clear hx236_1
                          try clear hx236_2
                          try clear hx243_0
                          try clear hx243_1
                          try clear hx243_2
                          try clear p2
                          try clear p23
                          try clear p234
                          try clear p236
                          try clear p243
                          try clear p6
                          try clear q2
                          try clear q23
                          try clear q234
                          try clear q236
                          try clear q243
                          obtain ⟨kq, x100_34, rfl, HA, HJ34, HO_7, HO_8, HO_9, BK237, HB⟩ := hcut
                          cases kq with
                          | zero => exact absurd HA.out (by simp [manometerlaw09_PointsFolds.j4])
                          | succ kj34 =>
                            have H := HA.out
                            clear HA
                            simp only [manometerlaw09_PointsFolds.j4] at H
                            by_cases c53 : x100_34 = true
                            · subst c53
                              have H1 : (some false) = some r := by rw [if_pos rfl] at H; exact H
                              clear H
                              have H := H1
                              clear H1
                              obtain rfl := Option.some.inj H
                              exact absurd HT_r.out (by decide)
                            · replace c53 := Bool.eq_false_iff.mpr c53
                              subst c53
                              have H1 : (manometerlaw09_PointsFolds.l1 kj34 l0 a1 t238 t244 t252 l0 (l0.length : Int) (wrap64 (x41_3 + 1))) = some r := by rw [if_neg (show ¬ (false = true) by decide)] at H; exact H
                              clear H
                              have H := H1
                              clear H1
                              have H' := Aside0.mk H
                              clear H
                              go_wp2
                              go_roundg kj34
                              case measure => have := HJ2.out; have := HK2.out; have := HK3.out; have := HJ24.out; have := HJ34.out; omega
                              case rel => exact ⟨(t238), (t244), (t252), (wrap64 (x41_3 + 1)), (by first | rfl | (simp; done) | (simp [*]; done)), H', ⟨by have := HJ2.out; have := HK2.out; have := HK3.out; have := HJ24.out; have := HJ34.out; omega⟩, ⟨by (with_reducible repeat (first | apply Kd.R_alloc | apply Kd.R_drewN | apply Kd.R_drew)); exact Kd.R_mono HO_7.out (fun _ hk => ⟨hk.1, hk.2.1⟩)⟩, ⟨by (with_reducible repeat (first | apply Kd.R_alloc | apply Kd.R_drewN | apply Kd.R_drew)); exact Kd.R_mono HO_8.out (fun _ hk => ⟨hk.1, hk.2.1⟩)⟩, ⟨by (with_reducible repeat (first | apply Kd.R_alloc | apply Kd.R_drewN | apply Kd.R_drew)); exact Kd.R_mono HO_9.out (fun _ hk => ⟨hk.1, hk.2.1⟩)⟩, ⟨by repeat (first | (with_reducible first | exact HB.out | apply below_alloc | apply pw_below_drewN | apply below_drew1 | refine below_set ?_ GE237.out) | exact HB.out)⟩⟩
                  · rw [if_neg c22] at H
                    have c22b0 : decide (x41_3 < (l0.length : Int)) = false := decide_eq_false c22
                    clear c22
                    replace H := Option.bind_eq_some_iff.mp H
                    obtain ⟨t257, A540, H⟩ := H
                    replace H : (if t257 = true then ((manometerref09_Same.f k3 x7_3 x9_3).bind fun t258 => (some t258)) else (some false)) = some r := H
                    have A54 := Aside0.mk A540
                    clear A540
                    by_cases c55 : t257 = true
                    · subst c55
                      have H1 : ((manometerref09_Same.f k3 x7_3 x9_3).bind fun t258 => (some t258)) = some r := by rw [if_pos rfl] at H; exact H
                      clear H
                      have H := H1
                      clear H1
                      replace H := Option.bind_eq_some_iff.mp H
                      obtain ⟨t258, A560, H⟩ := H
                      replace H : (some t258) = some r := H
                      have A56 := Aside0.mk A560
                      clear A560
                      obtain rfl := Option.some.inj H
                      obtain ⟨Ao57, co57, eo57⟩ := Kd.R_slice HO_7.out
                      subst eo57
                      obtain ⟨Ao58, co58, eo58⟩ := Kd.R_slice HO_8.out
                      subst eo58
                      go_wp2_with (first | ((with_reducible refine gate_callee (f := 23) rfl ?_); refine goesL_ (some 104) rfl rfl Try.func23 (by kernel_rfl) rfl #[.slice Ao57 x7_3.length co57, .slice Ao58 x8_3.length co58] rfl (by (try simp only [List.map_toArray, List.map_cons, List.map_nil]); first | done | rfl | (simp only [List.length_drop, List.length_take]; rfl)) ?_; (with_reducible refine (manometerref09_Same.calls k3 _ _ x7_3 _ _ x8_3 true _ ?side1 ?side2 ?side3 ?side4 A54.out).mono ?_); (case side1 => repeat (first | exact (Kd.R_reads' HO_7.out).2.2 | (with_reducible refine Kd.C_alloc ?_ _) | (with_reducible refine Kd.C_drewN ?_ _) | (with_reducible refine Kd.C_drew ?_))); (case side2 => exact (Kd.R_reads' HO_7.out).2.1); (case side3 => repeat (first | exact (Kd.R_reads' HO_8.out).2.2 | (with_reducible refine Kd.C_alloc ?_ _) | (with_reducible refine Kd.C_drewN ?_ _) | (with_reducible refine Kd.C_drew ?_))); (case side4 => exact (Kd.R_reads' HO_8.out).2.1); rintro e w' ⟨rfl, ⟨nd, rfl⟩⟩; refine ⟨_, rfl, ?_⟩; obtain ⟨Ao59, co59, eo59⟩ := Kd.R_slice HO_9.out; subst eo59) | (go_at_call 23; (with_reducible refine (manometerref09_Same.calls k3 _ _ x7_3 _ _ x9_3 t258 _ ?side1 ?side2 ?side3 ?side4 A56.out).mono ?_); (case side1 => repeat (first | exact (Kd.R_reads' HO_7.out).2.2 | (with_reducible refine Kd.C_alloc ?_ _) | (with_reducible refine Kd.C_drewN ?_ _) | (with_reducible refine Kd.C_drew ?_))); (case side2 => exact (Kd.R_reads' HO_7.out).2.1); (case side3 => repeat (first | exact (Kd.R_reads' HO_9.out).2.2 | (with_reducible refine Kd.C_alloc ?_ _) | (with_reducible refine Kd.C_drewN ?_ _) | (with_reducible refine Kd.C_drew ?_))); (case side4 => exact (Kd.R_reads' HO_9.out).2.1); rintro e w' ⟨rfl, ⟨nd, rfl⟩⟩))
                      go_ret
                      exact ⟨by first | rfl | (simp [errW_none, errW_some] <;> rfl) | (simp [*, errW_none, errW_some] <;> rfl), by repeat (first | (with_reducible first | exact HB.out | apply below_alloc | apply pw_below_drewN | apply below_drew1) | exact HB.out)⟩
                    · replace c55 := Bool.eq_false_iff.mpr c55
                      subst c55
                      have H1 : (some false) = some r := by rw [if_neg (show ¬ (false = true) by decide)] at H; exact H
                      clear H
                      have H := H1
                      clear H1
                      obtain rfl := Option.some.inj H
                      exact absurd HT_r.out (by decide)

end Go.Proofs.Ytfjhommpgbppjaa.R
