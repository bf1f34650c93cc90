-- Laid by this session's turned edition of print.py out of the translation. Not trusted: Lean checks it.
import Derived.Test.YtfjhommpgbppjaaQ0
import Derived.Test.YtfjhommpgbppjaaE
import Derived.Test.YtfjhommpgbppjaaV1
import Derived.Test.YtfjhommpgbppjaaV15
import Derived.Test.YtfjhommpgbppjaaV2
import Derived.Test.YtfjhommpgbppjaaV3
import Derived.Test.YtfjhommpgbppjaaV4
import Derived.Test.YtfjhommpgbppjaaV5
namespace Go.Proofs.Ytfjhommpgbppjaa.Q
open Go.RowKit Go.Proofs.YtfjhommpgbppjaaW.PrintWords Go.Proofs.YtfjhommpgbppjaaW.PrintLast Go.Proofs.YtfjhommpgbppjaaW.PrintMore
attribute [local go_sem] max2_int min2_int max_two min_two max_three min_three max_four min_four   -- for this text's walks alone
set_option linter.unusedVariables false
set_option linter.unusedSimpArgs false

/-! ### manometerlaw09_PointsStays: function 6 -/
mutual
def manometerlaw09_PointsStays.l0 : Nat → List (S25) → List (S25) → Int → Int → Int → List (S25) → Int → Int → Int → Int → Int → Option (Bool)
  | 0, _, _, _, _, _, _, _, _, _, _, _ => none
  | k + 1, x0, x5, x6, x8, x9, x50, x51, x52, x279000, x279001, x279002 => if x52 < x51 then (if 0 ≤ x52 then (if x52 < (x50.length : Int) then (if ((rd_T25 x50 x52).f0) = x279000 then ((points_Ahead.f x279000 x279001 x279002 ((rd_T25 x50 x52).f0) ((rd_T25 x50 x52).f1) ((rd_T25 x50 x52).f2)).bind fun t291 => (if t291 = true then (manometerlaw09_PointsStays.j1 k x0 x5 x6 (wrap64 (x8 + 1)) x9 x50 x51 x52 true x279000 x279001 x279002) else (if ((rd_T25 x50 x52).f1) = x279001 then (if ((rd_T25 x50 x52).f2) = x279002 then (if x6 = 2 then (manometerlaw09_PointsStays.j1 k x0 x5 x6 (wrap64 (x8 + 1)) x9 x50 x51 x52 false x279000 x279001 x279002) else (if x6 = 4 then (manometerlaw09_PointsStays.j1 k x0 x5 x6 (wrap64 (x8 + 1)) x9 x50 x51 x52 (((rd_T25 x50 x52).f1) == x279001) x279000 x279001 x279002) else (manometerlaw09_PointsStays.j1 k x0 x5 x6 (wrap64 (x8 + 1)) x9 x50 x51 x52 false x279000 x279001 x279002))) else (if x6 = 1 then (manometerlaw09_PointsStays.j1 k x0 x5 x6 (wrap64 (x8 + 1)) x9 x50 x51 x52 true x279000 x279001 x279002) else (if x6 = 3 then (manometerlaw09_PointsStays.j1 k x0 x5 x6 (wrap64 (x8 + 1)) x9 x50 x51 x52 true x279000 x279001 x279002) else (if x6 = 2 then (manometerlaw09_PointsStays.j1 k x0 x5 x6 (wrap64 (x8 + 1)) x9 x50 x51 x52 false x279000 x279001 x279002) else (if x6 = 4 then (manometerlaw09_PointsStays.j1 k x0 x5 x6 (wrap64 (x8 + 1)) x9 x50 x51 x52 (((rd_T25 x50 x52).f1) == x279001) x279000 x279001 x279002) else (manometerlaw09_PointsStays.j1 k x0 x5 x6 (wrap64 (x8 + 1)) x9 x50 x51 x52 false x279000 x279001 x279002)))))) else (if x6 = 1 then (manometerlaw09_PointsStays.j1 k x0 x5 x6 (wrap64 (x8 + 1)) x9 x50 x51 x52 true x279000 x279001 x279002) else (if x6 = 3 then (manometerlaw09_PointsStays.j1 k x0 x5 x6 (wrap64 (x8 + 1)) x9 x50 x51 x52 true x279000 x279001 x279002) else (if x6 = 2 then (manometerlaw09_PointsStays.j1 k x0 x5 x6 (wrap64 (x8 + 1)) x9 x50 x51 x52 true x279000 x279001 x279002) else (if x6 = 4 then (manometerlaw09_PointsStays.j1 k x0 x5 x6 (wrap64 (x8 + 1)) x9 x50 x51 x52 (((rd_T25 x50 x52).f1) == x279001) x279000 x279001 x279002) else (manometerlaw09_PointsStays.j1 k x0 x5 x6 (wrap64 (x8 + 1)) x9 x50 x51 x52 false x279000 x279001 x279002)))))))) else (manometerlaw09_PointsStays.l0 k x0 x5 x6 x8 (wrap64 (x9 + 1)) x50 x51 (wrap64 (x52 + 1)) x279000 x279001 x279002)) else (none)) else (none)) else (manometerlaw09_PointsStays.l1 k x0 x5 x6 x8 x9 x0 (x0.length : Int) 0 x279000 x279001 x279002)
def manometerlaw09_PointsStays.j1 : Nat → List (S25) → List (S25) → Int → Int → Int → List (S25) → Int → Int → Bool → Int → Int → Int → Option (Bool)
  | 0, _, _, _, _, _, _, _, _, _, _, _, _ => none
  | k + 1, x0, x5, x6, x8, x9, x50, x51, x52, x102, x279000, x279001, x279002 => if x102 = true then (some false) else (manometerlaw09_PointsStays.l0 k x0 x5 x6 x8 x9 x50 x51 (wrap64 (x52 + 1)) x279000 x279001 x279002)
def manometerlaw09_PointsStays.l1 : Nat → List (S25) → List (S25) → Int → Int → Int → List (S25) → Int → Int → Int → Int → Int → Option (Bool)
  | 0, _, _, _, _, _, _, _, _, _, _, _ => none
  | k + 1, x0, x5, x6, x8, x9, x104, x105, x106, x279000, x279001, x279002 => if x106 < x105 then (if 0 ≤ x106 then (if x106 < (x104.length : Int) then (if ((rd_T25 x104 x106).f0) = x279000 then (manometerlaw09_PointsStays.l1 k x0 x5 x6 x8 x9 x104 x105 (wrap64 (x106 + 1)) x279000 x279001 x279002) else ((points_Find.f x5 ((rd_T25 x104 x106).f0)).bind fun bt294 => (if bt294.2 = true then (if bt294.1 < 0 then (manometerlaw09_PointsStays.j3 k x0 x5 x6 x8 (wrap64 (x9 - 1)) x104 x105 x106 true x279000 x279001 x279002) else (if bt294.1 ≥ (x5.length : Int) then (manometerlaw09_PointsStays.j3 k x0 x5 x6 x8 (wrap64 (x9 - 1)) x104 x105 x106 true x279000 x279001 x279002) else (if 0 ≤ bt294.1 then (if bt294.1 < (x5.length : Int) then (if ((rd_T25 x5 bt294.1).f0) = ((rd_T25 x104 x106).f0) then (if ((rd_T25 x5 bt294.1).f1) = ((rd_T25 x104 x106).f1) then (if ((rd_T25 x5 bt294.1).f2) = ((rd_T25 x104 x106).f2) then (manometerlaw09_PointsStays.j3 k x0 x5 x6 x8 (wrap64 (x9 - 1)) x104 x105 x106 false x279000 x279001 x279002) else (manometerlaw09_PointsStays.j3 k x0 x5 x6 x8 (wrap64 (x9 - 1)) x104 x105 x106 true x279000 x279001 x279002)) else (manometerlaw09_PointsStays.j3 k x0 x5 x6 x8 (wrap64 (x9 - 1)) x104 x105 x106 true x279000 x279001 x279002)) else (manometerlaw09_PointsStays.j3 k x0 x5 x6 x8 (wrap64 (x9 - 1)) x104 x105 x106 true x279000 x279001 x279002)) else (none)) else (none)))) else (manometerlaw09_PointsStays.j3 k x0 x5 x6 x8 (wrap64 (x9 - 1)) x104 x105 x106 true x279000 x279001 x279002)))) else (none)) else (none)) else ((points_Right.f k x5).bind fun t297 => (if t297 = true then (if x8 = 1 then (if x9 = 0 then (some ((x6 == 1) == ((x5.length : Int) == (wrap64 ((x0.length : Int) + 1))))) else (some false)) else (some false)) else (some false)))
def manometerlaw09_PointsStays.j3 : Nat → List (S25) → List (S25) → Int → Int → Int → List (S25) → Int → Int → Bool → Int → Int → Int → Option (Bool)
  | 0, _, _, _, _, _, _, _, _, _, _, _, _ => none
  | k + 1, x0, x5, x6, x8, x9, x104, x105, x106, x143, x279000, x279001, x279002 => if x143 = true then (some false) else (manometerlaw09_PointsStays.l1 k x0 x5 x6 x8 x9 x104 x105 (wrap64 (x106 + 1)) x279000 x279001 x279002)
end
def manometerlaw09_PointsStays.f (k : Nat) (l0 : List (S25)) (a1_0 : Int) (a1_1 : Int) (a1_2 : Int) : Option (Bool) := (manometerlaw09_live.f k).bind fun t279 => (if t279 = true then ((manometerlaw09_few.f l0).bind fun t280 => (if t280 = true then ((points_Put.f k l0 a1_0 a1_1 a1_2).bind fun bt282 => (if bt282.2.2 = 0 then (manometerlaw09_PointsStays.l0 k l0 bt282.1 bt282.2.1 0 0 bt282.1 (bt282.1.length : Int) 0 a1_0 a1_1 a1_2) else (if bt282.2.1 = 0 then ((manometerref09_Same.f k l0 bt282.1).bind fun t287 => (if t287 = true then ((points_Right.f k l0).bind fun t288 => (if t288 = true then (some (a1_2 == 0)) else (some true))) else (some false))) else (some false)))) else ((manometerlaw09_live.f k).bind fun t281 => (if t281 = true then (some t281) else (none))))) else (none))
theorem manometerlaw09_PointsStays.mono_l : ∀ k, (∀ y0 y1 y2 y3 y4 y5 y6 y7 y8 y9 y10, LeO (manometerlaw09_PointsStays.l0 k y0 y1 y2 y3 y4 y5 y6 y7 y8 y9 y10) (manometerlaw09_PointsStays.l0 (k + 1) y0 y1 y2 y3 y4 y5 y6 y7 y8 y9 y10)) ∧ (∀ y0 y1 y2 y3 y4 y5 y6 y7 y8 y9 y10 y11, LeO (manometerlaw09_PointsStays.j1 k y0 y1 y2 y3 y4 y5 y6 y7 y8 y9 y10 y11) (manometerlaw09_PointsStays.j1 (k + 1) y0 y1 y2 y3 y4 y5 y6 y7 y8 y9 y10 y11)) ∧ (∀ y0 y1 y2 y3 y4 y5 y6 y7 y8 y9 y10, LeO (manometerlaw09_PointsStays.l1 k y0 y1 y2 y3 y4 y5 y6 y7 y8 y9 y10) (manometerlaw09_PointsStays.l1 (k + 1) y0 y1 y2 y3 y4 y5 y6 y7 y8 y9 y10)) ∧ (∀ y0 y1 y2 y3 y4 y5 y6 y7 y8 y9 y10 y11, LeO (manometerlaw09_PointsStays.j3 k y0 y1 y2 y3 y4 y5 y6 y7 y8 y9 y10 y11) (manometerlaw09_PointsStays.j3 (k + 1) y0 y1 y2 y3 y4 y5 y6 y7 y8 y9 y10 y11))
  | 0 => ⟨fun _ _ _ _ _ _ _ _ _ _ _ r h => by simp [manometerlaw09_PointsStays.l0] at h, fun _ _ _ _ _ _ _ _ _ _ _ _ r h => by simp [manometerlaw09_PointsStays.j1] at h, fun _ _ _ _ _ _ _ _ _ _ _ r h => by simp [manometerlaw09_PointsStays.l1] at h, fun _ _ _ _ _ _ _ _ _ _ _ _ r h => by simp [manometerlaw09_PointsStays.j3] at h⟩
  | k + 1 => by
    obtain ⟨ih0, ih1, ih2, ih3⟩ := manometerlaw09_PointsStays.mono_l k
    refine ⟨?_, ?_, ?_, ?_⟩
    · intro y0 y1 y2 y3 y4 y5 y6 y7 y8 y9 y10
      unfold manometerlaw09_PointsStays.l0
      repeat' first
      | (with_reducible exact ih0 _ _ _ _ _ _ _ _ _ _ _)
      | (with_reducible exact ih1 _ _ _ _ _ _ _ _ _ _ _ _)
      | (with_reducible exact ih2 _ _ _ _ _ _ _ _ _ _ _)
      | (with_reducible exact ih3 _ _ _ _ _ _ _ _ _ _ _ _)
      | (with_reducible exact manometerlaw09_live.mono _)
      | (with_reducible exact manometerref09_Same.mono _ _ _)
      | (with_reducible exact points_Put.mono _ _ _ _ _)
      | (with_reducible exact points_Right.mono _ _)
      | (with_reducible exact LeO.refl _)
      | (with_reducible exact LeO.none _)
      | (with_reducible refine LeO.ite ?_ ?_)
      | (with_reducible refine LeO.bind ?_ (fun _ => ?_))
      | exact ih0 _ _ _ _ _ _ _ _ _ _ _
      | exact ih1 _ _ _ _ _ _ _ _ _ _ _ _
      | exact ih2 _ _ _ _ _ _ _ _ _ _ _
      | exact ih3 _ _ _ _ _ _ _ _ _ _ _ _
      | exact manometerlaw09_live.mono _
      | exact manometerref09_Same.mono _ _ _
      | exact points_Put.mono _ _ _ _ _
      | exact points_Right.mono _ _
      | exact LeO.none _
      | refine LeO.ite ?_ ?_
      | refine LeO.bind ?_ (fun _ => ?_)
    · intro y0 y1 y2 y3 y4 y5 y6 y7 y8 y9 y10 y11
      unfold manometerlaw09_PointsStays.j1
      repeat' first
      | (with_reducible exact ih0 _ _ _ _ _ _ _ _ _ _ _)
      | (with_reducible exact ih1 _ _ _ _ _ _ _ _ _ _ _ _)
      | (with_reducible exact ih2 _ _ _ _ _ _ _ _ _ _ _)
      | (with_reducible exact ih3 _ _ _ _ _ _ _ _ _ _ _ _)
      | (with_reducible exact manometerlaw09_live.mono _)
      | (with_reducible exact manometerref09_Same.mono _ _ _)
      | (with_reducible exact points_Put.mono _ _ _ _ _)
      | (with_reducible exact points_Right.mono _ _)
      | (with_reducible exact LeO.refl _)
      | (with_reducible exact LeO.none _)
      | (with_reducible refine LeO.ite ?_ ?_)
      | (with_reducible refine LeO.bind ?_ (fun _ => ?_))
      | exact ih0 _ _ _ _ _ _ _ _ _ _ _
      | exact ih1 _ _ _ _ _ _ _ _ _ _ _ _
      | exact ih2 _ _ _ _ _ _ _ _ _ _ _
      | exact ih3 _ _ _ _ _ _ _ _ _ _ _ _
      | exact manometerlaw09_live.mono _
      | exact manometerref09_Same.mono _ _ _
      | exact points_Put.mono _ _ _ _ _
      | exact points_Right.mono _ _
      | exact LeO.none _
      | refine LeO.ite ?_ ?_
      | refine LeO.bind ?_ (fun _ => ?_)
    · intro y0 y1 y2 y3 y4 y5 y6 y7 y8 y9 y10
      unfold manometerlaw09_PointsStays.l1
      repeat' first
      | (with_reducible exact ih0 _ _ _ _ _ _ _ _ _ _ _)
      | (with_reducible exact ih1 _ _ _ _ _ _ _ _ _ _ _ _)
      | (with_reducible exact ih2 _ _ _ _ _ _ _ _ _ _ _)
      | (with_reducible exact ih3 _ _ _ _ _ _ _ _ _ _ _ _)
      | (with_reducible exact manometerlaw09_live.mono _)
      | (with_reducible exact manometerref09_Same.mono _ _ _)
      | (with_reducible exact points_Put.mono _ _ _ _ _)
      | (with_reducible exact points_Right.mono _ _)
      | (with_reducible exact LeO.refl _)
      | (with_reducible exact LeO.none _)
      | (with_reducible refine LeO.ite ?_ ?_)
      | (with_reducible refine LeO.bind ?_ (fun _ => ?_))
      | exact ih0 _ _ _ _ _ _ _ _ _ _ _
      | exact ih1 _ _ _ _ _ _ _ _ _ _ _ _
      | exact ih2 _ _ _ _ _ _ _ _ _ _ _
      | exact ih3 _ _ _ _ _ _ _ _ _ _ _ _
      | exact manometerlaw09_live.mono _
      | exact manometerref09_Same.mono _ _ _
      | exact points_Put.mono _ _ _ _ _
      | exact points_Right.mono _ _
      | exact LeO.none _
      | refine LeO.ite ?_ ?_
      | refine LeO.bind ?_ (fun _ => ?_)
    · intro y0 y1 y2 y3 y4 y5 y6 y7 y8 y9 y10 y11
      unfold manometerlaw09_PointsStays.j3
      repeat' first
      | (with_reducible exact ih0 _ _ _ _ _ _ _ _ _ _ _)
      | (with_reducible exact ih1 _ _ _ _ _ _ _ _ _ _ _ _)
      | (with_reducible exact ih2 _ _ _ _ _ _ _ _ _ _ _)
      | (with_reducible exact ih3 _ _ _ _ _ _ _ _ _ _ _ _)
      | (with_reducible exact manometerlaw09_live.mono _)
      | (with_reducible exact manometerref09_Same.mono _ _ _)
      | (with_reducible exact points_Put.mono _ _ _ _ _)
      | (with_reducible exact points_Right.mono _ _)
      | (with_reducible exact LeO.refl _)
      | (with_reducible exact LeO.none _)
      | (with_reducible refine LeO.ite ?_ ?_)
      | (with_reducible refine LeO.bind ?_ (fun _ => ?_))
      | exact ih0 _ _ _ _ _ _ _ _ _ _ _
      | exact ih1 _ _ _ _ _ _ _ _ _ _ _ _
      | exact ih2 _ _ _ _ _ _ _ _ _ _ _
      | exact ih3 _ _ _ _ _ _ _ _ _ _ _ _
      | exact manometerlaw09_live.mono _
      | exact manometerref09_Same.mono _ _ _
      | exact points_Put.mono _ _ _ _ _
      | exact points_Right.mono _ _
      | exact LeO.none _
      | refine LeO.ite ?_ ?_
      | refine LeO.bind ?_ (fun _ => ?_)
theorem manometerlaw09_PointsStays.mono : ∀ a0 a1 a2 a3 k, LeO (manometerlaw09_PointsStays.f k a0 a1 a2 a3) (manometerlaw09_PointsStays.f (k + 1) a0 a1 a2 a3) := by
  intro a0 a1 a2 a3 k
  obtain ⟨ih0, ih1, ih2, ih3⟩ := manometerlaw09_PointsStays.mono_l k
  unfold manometerlaw09_PointsStays.f
  repeat' first
      | (with_reducible exact ih0 _ _ _ _ _ _ _ _ _ _ _)
      | (with_reducible exact ih1 _ _ _ _ _ _ _ _ _ _ _ _)
      | (with_reducible exact ih2 _ _ _ _ _ _ _ _ _ _ _)
      | (with_reducible exact ih3 _ _ _ _ _ _ _ _ _ _ _ _)
      | (with_reducible exact manometerlaw09_live.mono _)
      | (with_reducible exact manometerref09_Same.mono _ _ _)
      | (with_reducible exact points_Put.mono _ _ _ _ _)
      | (with_reducible exact points_Right.mono _ _)
      | (with_reducible exact LeO.refl _)
      | (with_reducible exact LeO.none _)
      | (with_reducible refine LeO.ite ?_ ?_)
      | (with_reducible refine LeO.bind ?_ (fun _ => ?_))
      | exact ih0 _ _ _ _ _ _ _ _ _ _ _
      | exact ih1 _ _ _ _ _ _ _ _ _ _ _ _
      | exact ih2 _ _ _ _ _ _ _ _ _ _ _
      | exact ih3 _ _ _ _ _ _ _ _ _ _ _ _
      | exact manometerlaw09_live.mono _
      | exact manometerref09_Same.mono _ _ _
      | exact points_Put.mono _ _ _ _ _
      | exact points_Right.mono _ _
      | exact LeO.none _
      | refine LeO.ite ?_ ?_
      | refine LeO.bind ?_ (fun _ => ?_)
set_option maxHeartbeats 8000000 in
set_option maxRecDepth 100000 in
theorem manometerlaw09_PointsStays.calls (k : Nat) (A0 : Option Addr) (c0 : Nat) (l0 : List (S25)) (a1_0 : Int) (a1_1 : Int) (a1_2 : Int) (r : Bool) (w : World) (hr0 : Kd.C k25 w A0 l0.length l0) (hc0 : l0.length ≤ c0) (hT : r = true) (h : manometerlaw09_PointsStays.f k l0 a1_0 a1_1 a1_2 = some r) :
    Calls Try.prog 6 #[.slice A0 l0.length c0, .agg #[.int .i64 a1_0, .int .u64 a1_1, .int .u64 a1_2]] w fun e w' => e = .returned (.bool r) ∧ Below w.heap.size w w' := by
  have hu25 := Try.underlying25
  have HR0 := Aside0.mk hr0
  have HC0 := Aside0.mk hc0
  clear hr0 hc0
  have HT_r := Aside0.mk hT
  clear hT
  have HB := Aside0.mk (Below.refl w.heap.size w)
  have H : ((manometerlaw09_live.f k).bind fun t279 => (if t279 = true then ((manometerlaw09_few.f l0).bind fun t280 => (if t280 = true then ((points_Put.f k l0 a1_0 a1_1 a1_2).bind fun bt282 => (if bt282.2.2 = 0 then (manometerlaw09_PointsStays.l0 k l0 bt282.1 bt282.2.1 0 0 bt282.1 (bt282.1.length : Int) 0 a1_0 a1_1 a1_2) else (if bt282.2.1 = 0 then ((manometerref09_Same.f k l0 bt282.1).bind fun t287 => (if t287 = true then ((points_Right.f k l0).bind fun t288 => (if t288 = true then (some (a1_2 == 0)) else (some true))) else (some false))) else (some false)))) else ((manometerlaw09_live.f k).bind fun t281 => (if t281 = true then (some t281) else (none))))) else (none))) = some r := h
  clear h
  replace H := Option.bind_eq_some_iff.mp H
  obtain ⟨t279, A30, H⟩ := H
  replace H : (if t279 = true then ((manometerlaw09_few.f l0).bind fun t280 => (if t280 = true then ((points_Put.f k l0 a1_0 a1_1 a1_2).bind fun bt282 => (if bt282.2.2 = 0 then (manometerlaw09_PointsStays.l0 k l0 bt282.1 bt282.2.1 0 0 bt282.1 (bt282.1.length : Int) 0 a1_0 a1_1 a1_2) else (if bt282.2.1 = 0 then ((manometerref09_Same.f k l0 bt282.1).bind fun t287 => (if t287 = true then ((points_Right.f k l0).bind fun t288 => (if t288 = true then (some (a1_2 == 0)) else (some true))) else (some false))) else (some false)))) else ((manometerlaw09_live.f k).bind fun t281 => (if t281 = true then (some t281) else (none))))) else (none)) = some r := H
  have A3 := Aside0.mk A30
  clear A30
  by_cases c4 : t279 = true
  · subst c4
    have H1 : ((manometerlaw09_few.f l0).bind fun t280 => (if t280 = true then ((points_Put.f k l0 a1_0 a1_1 a1_2).bind fun bt282 => (if bt282.2.2 = 0 then (manometerlaw09_PointsStays.l0 k l0 bt282.1 bt282.2.1 0 0 bt282.1 (bt282.1.length : Int) 0 a1_0 a1_1 a1_2) else (if bt282.2.1 = 0 then ((manometerref09_Same.f k l0 bt282.1).bind fun t287 => (if t287 = true then ((points_Right.f k l0).bind fun t288 => (if t288 = true then (some (a1_2 == 0)) else (some true))) else (some false))) else (some false)))) else ((manometerlaw09_live.f k).bind fun t281 => (if t281 = true then (some t281) else (none))))) = some r := by rw [if_pos rfl] at H; exact H
    clear H
    have H := H1
    clear H1
    replace H := Option.bind_eq_some_iff.mp H
    obtain ⟨t280, A50, H⟩ := H
    replace H : (if t280 = true then ((points_Put.f k l0 a1_0 a1_1 a1_2).bind fun bt282 => (if bt282.2.2 = 0 then (manometerlaw09_PointsStays.l0 k l0 bt282.1 bt282.2.1 0 0 bt282.1 (bt282.1.length : Int) 0 a1_0 a1_1 a1_2) else (if bt282.2.1 = 0 then ((manometerref09_Same.f k l0 bt282.1).bind fun t287 => (if t287 = true then ((points_Right.f k l0).bind fun t288 => (if t288 = true then (some (a1_2 == 0)) else (some true))) else (some false))) else (some false)))) else ((manometerlaw09_live.f k).bind fun t281 => (if t281 = true then (some t281) else (none)))) = some r := H
    have A5 := Aside0.mk A50
    clear A50
    by_cases c6 : t280 = true
    · subst c6
      have H1 : ((points_Put.f k l0 a1_0 a1_1 a1_2).bind fun bt282 => (if bt282.2.2 = 0 then (manometerlaw09_PointsStays.l0 k l0 bt282.1 bt282.2.1 0 0 bt282.1 (bt282.1.length : Int) 0 a1_0 a1_1 a1_2) else (if bt282.2.1 = 0 then ((manometerref09_Same.f k l0 bt282.1).bind fun t287 => (if t287 = true then ((points_Right.f k l0).bind fun t288 => (if t288 = true then (some (a1_2 == 0)) else (some true))) else (some false))) else (some false)))) = some r := by rw [if_pos rfl] at H; exact H
      clear H
      have H := H1
      clear H1
      replace H := Option.bind_eq_some_iff.mp H
      obtain ⟨⟨t282, t285, t286⟩, A70, H⟩ := H
      replace H : (if t286 = 0 then (manometerlaw09_PointsStays.l0 k l0 t282 t285 0 0 t282 (t282.length : Int) 0 a1_0 a1_1 a1_2) else (if t285 = 0 then ((manometerref09_Same.f k l0 t282).bind fun t287 => (if t287 = true then ((points_Right.f k l0).bind fun t288 => (if t288 = true then (some (a1_2 == 0)) else (some true))) else (some false))) else (some false))) = some r := H
      have A7 := Aside0.mk A70
      clear A70
      by_cases c8 : t286 = 0
      · rw [if_pos c8] at H
        have c8b0 : (t286 == 0) = true := beq_iff_eq.mpr c8
        have c8b1 : (t286 != 0) = false := bne_eq_false_iff_eq.mpr c8
        have EQc8 := Aside0.mk c8
        clear c8
        have H' := Aside0.mk H
        clear H
        go_enter Try.func6, Try.ntmps6
        go_wp2_with (first | ((with_reducible refine gate_dst (N := 3) rfl ?_); (try (refine gate_guard (by rfl) ?_; dsimp only)); refine box_event ?hg (N := 3) ?hd (cs := #[.int .i64 a1_0, .int .u64 a1_1, .int .u64 a1_2]) (t := 25) ?hr ?_; (case hd => rfl); (case hg => rfl); (case hr => first | (go_simp; done) | (go_simp; rfl)); intro gb278 hg w9 hbox hb; have n0_ := Aside0.mk (below_step (by repeat (first | (with_reducible first | exact HB.out | apply below_alloc | apply pw_below_drewN | apply below_drew1) | exact HB.out)) hb); have n1_ := Aside0.mk (hbox); have n2_ := Aside0.mk ((by rw [hg]; exact (below_size (by repeat (first | (with_reducible first | exact HB.out | apply below_alloc | apply pw_below_drewN | apply below_drew1) | exact HB.out))) : w.heap.size ≤ gb278)); have n3_ := Aside0.mk ((by rw [hg]; exact (below_size (by repeat (first | (with_reducible first | exact HB.out | apply below_alloc | apply pw_below_drewN | apply below_drew1) | exact HB.out))) : w.heap.size ≤ gb278)); clear HB; have HB := n0_; have BK278 := n1_; have GW278 := n2_; have GE278 := n3_; clear n0_ n1_ n2_ n3_; clear hb hbox hg) | (go_at_call 12; (with_reducible refine (manometerlaw09_live.calls k  true _ A3.out).mono ?_); rintro e w10 ⟨rfl, hb⟩; have n0_ := Aside0.mk (blk_below (g := gb278) (o := .cells #[.int .i64 a1_0, .int .u64 a1_1, .int .u64 a1_2] 25 (0, 0)) (by (with_reducible repeat (first | refine blk_drewN ?_ _ | refine blk_drew ?_ | refine blk_alloc ?_ _)); exact BK278.out) hb); have n1_ := Aside0.mk (below_step (by repeat (first | (with_reducible first | exact HB.out | apply below_alloc | apply pw_below_drewN | apply below_drew1 | refine below_set ?_ GE278.out) | exact HB.out)) hb); clear BK278; clear HB; have BK278 := n0_; have HB := n1_; clear n0_ n1_; (try clear hb); (try clear hb2); (try clear hk); (try clear hi)) | (go_at_call 13; (with_reducible refine (manometerlaw09_few.calls _ _ l0 true _ ?side1 ?side2 A5.out).mono ?_); (case side1 => repeat (first | exact (Kd.C_below HR0.out HB.out) | (with_reducible refine Kd.C_alloc ?_ _) | (with_reducible refine Kd.C_drewN ?_ _) | (with_reducible refine Kd.C_drew ?_))); (case side2 => exact HC0.out); rintro e w' ⟨rfl, ⟨nd, rfl⟩⟩; (try first | exact ⟨rfl, _, World.drewN_drewN _ _ _⟩ | exact ⟨rfl, _, Eq.trans (World.drewN_drewN _ _ _) (congrArg (World.drewN _) (Nat.add_assoc _ _ _))⟩); have hcz11_0 : w10.cell? ⟨gb278, 0, none⟩ = some (.int .i64 a1_0) := (blk_cell BK278.out 0).trans rfl; have hcz11_1 : w10.cell? ⟨gb278, 1, none⟩ = some (.int .u64 a1_1) := (blk_cell BK278.out 1).trans rfl; have hcz11_2 : w10.cell? ⟨gb278, 2, none⟩ = some (.int .u64 a1_2) := (blk_cell BK278.out 2).trans rfl; have hfz11_0 := blk_frozen BK278.out 0; have hfz11_1 := blk_frozen BK278.out 1; have hfz11_2 := blk_frozen BK278.out 2) | (go_at_call 21; (with_reducible refine (points_Put.calls k (fun k_ => k_ < w.heap.size) _ _ l0 a1_0 a1_1 a1_2 t282 t285 t286 _ ?side1 A7.out).mono ?_); (case side1 => exact Kd.V_mk HC0.out (Kd.F_below (Kd.C_F k25_heap HR0.out) (by repeat (first | (with_reducible first | exact HB.out | apply below_alloc | apply pw_below_drewN | apply below_drew1 | refine below_set ?_ GE278.out) | exact HB.out)))); rintro e w12 ⟨v283, rfl, ho0, hb⟩; have n0_ := Aside0.mk (Kd.V_lower (Kd.V_mono (ok' := fun k_ => k_ ≠ gb278) ho0 (fun k_ hk_ => Or.elim hk_ (fun hs_ => fun e_ => Nat.not_le.2 hs_ (by rw [e_]; exact GW278.out)) (fun hn_ => (Kd.freshB (g := gb278) (o := .cells #[.int .i64 a1_0, .int .u64 a1_1, .int .u64 a1_2] 25 (0, 0)) (by (with_reducible repeat (first | refine blk_drewN ?_ _ | refine blk_drew ?_ | refine blk_alloc ?_ _)); exact BK278.out) k_ hn_)))) (below_size (by repeat (first | (with_reducible first | exact HB.out | apply below_alloc | apply pw_below_drewN | apply below_drew1 | refine below_set ?_ GE278.out) | exact HB.out)))); have n1_ := Aside0.mk (blk_below (g := gb278) (o := .cells #[.int .i64 a1_0, .int .u64 a1_1, .int .u64 a1_2] 25 (0, 0)) (by (with_reducible repeat (first | refine blk_drewN ?_ _ | refine blk_drew ?_ | refine blk_alloc ?_ _)); exact BK278.out) hb); have n2_ := Aside0.mk (below_step (by repeat (first | (with_reducible first | exact HB.out | apply below_alloc | apply pw_below_drewN | apply below_drew1 | refine below_set ?_ GE278.out) | exact HB.out)) hb); clear BK278; clear HB; have HO284 := n0_; have BK278 := n1_; have HB := n2_; clear n0_ n1_ n2_; (try clear hb); (try clear hb2); (try clear hk); (try clear hi); (try clear ho0); obtain ⟨Ao13, co13, eo13⟩ := Kd.V_slice HO284.out; subst eo13))
        repeat (go_quiet (first | (go_at_call 13; (with_reducible refine (manometerlaw09_few.calls _ _ l0 true _ ?side1 ?side2 A5.out).mono ?_); (case side1 => repeat (first | exact (Kd.C_below HR0.out HB.out) | (with_reducible refine Kd.C_alloc ?_ _) | (with_reducible refine Kd.C_drewN ?_ _) | (with_reducible refine Kd.C_drew ?_))); (case side2 => exact HC0.out); rintro e w' ⟨rfl, ⟨nd, rfl⟩⟩; (try first | exact ⟨rfl, _, World.drewN_drewN _ _ _⟩ | exact ⟨rfl, _, Eq.trans (World.drewN_drewN _ _ _) (congrArg (World.drewN _) (Nat.add_assoc _ _ _))⟩); have hcz11_0 : w10.cell? ⟨gb278, 0, none⟩ = some (.int .i64 a1_0) := (blk_cell BK278.out 0).trans rfl; have hcz11_1 : w10.cell? ⟨gb278, 1, none⟩ = some (.int .u64 a1_1) := (blk_cell BK278.out 1).trans rfl; have hcz11_2 : w10.cell? ⟨gb278, 2, none⟩ = some (.int .u64 a1_2) := (blk_cell BK278.out 2).trans rfl; have hfz11_0 := blk_frozen BK278.out 0; have hfz11_1 := blk_frozen BK278.out 1; have hfz11_2 := blk_frozen BK278.out 2)); try go_wp2_with (first | ((with_reducible refine gate_dst (N := 3) rfl ?_); (try (refine gate_guard (by rfl) ?_; dsimp only)); refine box_event ?hg (N := 3) ?hd (cs := #[.int .i64 a1_0, .int .u64 a1_1, .int .u64 a1_2]) (t := 25) ?hr ?_; (case hd => rfl); (case hg => rfl); (case hr => first | (go_simp; done) | (go_simp; rfl)); intro gb278 hg w9 hbox hb; have n0_ := Aside0.mk (below_step (by repeat (first | (with_reducible first | exact HB.out | apply below_alloc | apply pw_below_drewN | apply below_drew1) | exact HB.out)) hb); have n1_ := Aside0.mk (hbox); have n2_ := Aside0.mk ((by rw [hg]; exact (below_size (by repeat (first | (with_reducible first | exact HB.out | apply below_alloc | apply pw_below_drewN | apply below_drew1) | exact HB.out))) : w.heap.size ≤ gb278)); have n3_ := Aside0.mk ((by rw [hg]; exact (below_size (by repeat (first | (with_reducible first | exact HB.out | apply below_alloc | apply pw_below_drewN | apply below_drew1) | exact HB.out))) : w.heap.size ≤ gb278)); clear HB; have HB := n0_; have BK278 := n1_; have GW278 := n2_; have GE278 := n3_; clear n0_ n1_ n2_ n3_; clear hb hbox hg) | (go_at_call 12; (with_reducible refine (manometerlaw09_live.calls k  true _ A3.out).mono ?_); rintro e w10 ⟨rfl, hb⟩; have n0_ := Aside0.mk (blk_below (g := gb278) (o := .cells #[.int .i64 a1_0, .int .u64 a1_1, .int .u64 a1_2] 25 (0, 0)) (by (with_reducible repeat (first | refine blk_drewN ?_ _ | refine blk_drew ?_ | refine blk_alloc ?_ _)); exact BK278.out) hb); have n1_ := Aside0.mk (below_step (by repeat (first | (with_reducible first | exact HB.out | apply below_alloc | apply pw_below_drewN | apply below_drew1 | refine below_set ?_ GE278.out) | exact HB.out)) hb); clear BK278; clear HB; have BK278 := n0_; have HB := n1_; clear n0_ n1_; (try clear hb); (try clear hb2); (try clear hk); (try clear hi)) | (go_at_call 13; (with_reducible refine (manometerlaw09_few.calls _ _ l0 true _ ?side1 ?side2 A5.out).mono ?_); (case side1 => repeat (first | exact (Kd.C_below HR0.out HB.out) | (with_reducible refine Kd.C_alloc ?_ _) | (with_reducible refine Kd.C_drewN ?_ _) | (with_reducible refine Kd.C_drew ?_))); (case side2 => exact HC0.out); rintro e w' ⟨rfl, ⟨nd, rfl⟩⟩; (try first | exact ⟨rfl, _, World.drewN_drewN _ _ _⟩ | exact ⟨rfl, _, Eq.trans (World.drewN_drewN _ _ _) (congrArg (World.drewN _) (Nat.add_assoc _ _ _))⟩); have hcz11_0 : w10.cell? ⟨gb278, 0, none⟩ = some (.int .i64 a1_0) := (blk_cell BK278.out 0).trans rfl; have hcz11_1 : w10.cell? ⟨gb278, 1, none⟩ = some (.int .u64 a1_1) := (blk_cell BK278.out 1).trans rfl; have hcz11_2 : w10.cell? ⟨gb278, 2, none⟩ = some (.int .u64 a1_2) := (blk_cell BK278.out 2).trans rfl; have hfz11_0 := blk_frozen BK278.out 0; have hfz11_1 := blk_frozen BK278.out 1; have hfz11_2 := blk_frozen BK278.out 2) | (go_at_call 21; (with_reducible refine (points_Put.calls k (fun k_ => k_ < w.heap.size) _ _ l0 a1_0 a1_1 a1_2 t282 t285 t286 _ ?side1 A7.out).mono ?_); (case side1 => exact Kd.V_mk HC0.out (Kd.F_below (Kd.C_F k25_heap HR0.out) (by repeat (first | (with_reducible first | exact HB.out | apply below_alloc | apply pw_below_drewN | apply below_drew1 | refine below_set ?_ GE278.out) | exact HB.out)))); rintro e w12 ⟨v283, rfl, ho0, hb⟩; have n0_ := Aside0.mk (Kd.V_lower (Kd.V_mono (ok' := fun k_ => k_ ≠ gb278) ho0 (fun k_ hk_ => Or.elim hk_ (fun hs_ => fun e_ => Nat.not_le.2 hs_ (by rw [e_]; exact GW278.out)) (fun hn_ => (Kd.freshB (g := gb278) (o := .cells #[.int .i64 a1_0, .int .u64 a1_1, .int .u64 a1_2] 25 (0, 0)) (by (with_reducible repeat (first | refine blk_drewN ?_ _ | refine blk_drew ?_ | refine blk_alloc ?_ _)); exact BK278.out) k_ hn_)))) (below_size (by repeat (first | (with_reducible first | exact HB.out | apply below_alloc | apply pw_below_drewN | apply below_drew1 | refine below_set ?_ GE278.out) | exact HB.out)))); have n1_ := Aside0.mk (blk_below (g := gb278) (o := .cells #[.int .i64 a1_0, .int .u64 a1_1, .int .u64 a1_2] 25 (0, 0)) (by (with_reducible repeat (first | refine blk_drewN ?_ _ | refine blk_drew ?_ | refine blk_alloc ?_ _)); exact BK278.out) hb); have n2_ := Aside0.mk (below_step (by repeat (first | (with_reducible first | exact HB.out | apply below_alloc | apply pw_below_drewN | apply below_drew1 | refine below_set ?_ GE278.out) | exact HB.out)) hb); clear BK278; clear HB; have HO284 := n0_; have BK278 := n1_; have HB := n2_; clear n0_ n1_ n2_; (try clear hb); (try clear hb2); (try clear hk); (try clear hi); (try clear ho0); obtain ⟨Ao13, co13, eo13⟩ := Kd.V_slice HO284.out; subst eo13)))
        go_loopg [8, 9, 52] k (fun kq v8 v9 v52 w' => ∃ (x8_1 : Int) (x9_1 : Int) (x52_1 : Int), v8 = .int .i64 x8_1 ∧ v9 = .int .i64 x9_1 ∧ v52 = .int .i64 x52_1 ∧ Aside0 (manometerlaw09_PointsStays.l0 kq l0 t282 t285 x8_1 x9_1 t282 (t282.length : Int) x52_1 a1_0 a1_1 a1_2 = some r) ∧ Aside0 (kq ≤ k) ∧ Aside0 (Kd.V k25 25 w' w.heap.size (fun k_ => k_ ≠ gb278) (.slice Ao13 t282.length co13) t282) ∧ Aside0 (Kd.V k25 25 w' w.heap.size (fun k_ => k_ ≠ gb278) (.slice Ao13 t282.length co13) t282) ∧ Aside0 (w'.heap[gb278]? = some (.cells #[.int .i64 a1_0, .int .u64 a1_1, .int .u64 a1_2] 25 (0, 0))) ∧ Aside0 (Below w.heap.size w w'))
        case atStart => exact ⟨(0), (0), (0), (by first | rfl | (simp; done) | (simp [*]; done)), (by first | rfl | (simp; done) | (simp [*]; done)), (by first | rfl | (simp; done) | (simp [*]; done)), H', ⟨Nat.le_refl _⟩, ⟨by (with_reducible repeat (first | apply Kd.V_alloc | apply Kd.V_drewN | apply Kd.V_drew)); exact HO284.out⟩, ⟨by (with_reducible repeat (first | apply Kd.V_alloc | apply Kd.V_drewN | apply Kd.V_drew)); exact HO284.out⟩, ⟨by (with_reducible repeat (first | refine blk_drewN ?_ _ | refine blk_drew ?_ | refine blk_alloc ?_ _)); exact BK278.out⟩, ⟨by repeat (first | (with_reducible first | exact HB.out | apply below_alloc | apply pw_below_drewN | apply below_drew1 | refine below_set ?_ GE278.out) | exact HB.out)⟩⟩
        case round =>
          clear H'
          try clear p2
          try clear c4
          try clear c6
          try clear c8
          try clear c8b0
          try clear c8b1
          try clear hcz11_0
          try clear hcz11_1
          try clear hcz11_2
          try clear hfz11_0
          try clear hfz11_1
          try clear hfz11_2
          obtain ⟨x8_1, x9_1, x52_1, rfl, rfl, rfl, HA, HK1, HO_5, HO_50, BK278, HB⟩ := hrel
          cases gk with
          | zero => exact absurd HA.out (by simp [manometerlaw09_PointsStays.l0])
          | succ k1 =>
            have H := HA.out
            clear HA
            simp only [manometerlaw09_PointsStays.l0] at H
            by_cases c14 : x52_1 < (t282.length : Int)
            · rw [if_pos c14] at H
              have c14b0 : decide (x52_1 < (t282.length : Int)) = true := decide_eq_true c14
              clear c14
              by_cases c15 : 0 ≤ x52_1
              rotate_left
              · rw [if_neg c15] at H
                exact absurd H (by simp)
              rw [if_pos c15] at H
              have c15b0 : decide (0 ≤ x52_1) = true := decide_eq_true c15
              clear c15
              by_cases c16 : x52_1 < (t282.length : Int)
              rotate_left
              · rw [if_neg c16] at H
                exact absurd H (by simp)
              rw [if_pos c16] at H
              have c16b0 : decide (x52_1 < (t282.length : Int)) = true := decide_eq_true c16
              clear c16
              by_cases c17 : ((rd_T25 t282 x52_1).f0) = a1_0
              · rw [if_pos c17] at H
                have c17b0 : (((rd_T25 t282 x52_1).f0) == a1_0) = true := beq_iff_eq.mpr c17
                have c17b1 : (((rd_T25 t282 x52_1).f0) != a1_0) = false := bne_eq_false_iff_eq.mpr c17
                clear c17
                have HC18 := Aside0.mk H
                clear H
                have p289 : 0 ≤ (x52_1 : Int) := of_decide_eq_true (by first | (with_reducible assumption) | assumption)
                have q289 : x52_1 < (t282.length : Int) := of_decide_eq_true (by first | (with_reducible assumption) | assumption)
                obtain ⟨ad289, e289, hx289_0, hx289_1, hx289_2⟩ := at_T25 (Kd.V_reads' HO_50.out).2.2 x52_1 p289 q289
                cases e289
                replace p289 := eq_true p289
                replace q289 := eq_true q289
                go_upto_region 13 with (first | ((with_reducible refine gate_dst (N := 11) rfl ?_); (try (refine gate_guard (by rfl) ?_; dsimp only)); refine box_event ?hg (N := 11) ?hd (cs := #[.int .i64 0, .int .u64 0, .int .u64 0]) (t := 25) ?hr ?_; (case hd => rfl); (case hg => rfl); (case hr => first | (go_simp; done) | (go_simp; rfl)); intro gb290 hg w19 hbox hb; have n0_ := Aside0.mk (Kd.V_below (Kd.V_elderB (by (with_reducible repeat (first | apply Kd.V_alloc | apply Kd.V_drewN | apply Kd.V_drew)); exact HO_5.out) gb290 (Nat.le_of_eq hg.symm)) hb); have n1_ := Aside0.mk (Kd.V_below (Kd.V_elderB (by (with_reducible repeat (first | apply Kd.V_alloc | apply Kd.V_drewN | apply Kd.V_drew)); exact HO_50.out) gb290 (Nat.le_of_eq hg.symm)) hb); have n2_ := Aside0.mk (blk_below (g := gb278) (o := .cells #[.int .i64 a1_0, .int .u64 a1_1, .int .u64 a1_2] 25 (0, 0)) (by (with_reducible repeat (first | refine blk_drewN ?_ _ | refine blk_drew ?_ | refine blk_alloc ?_ _)); exact BK278.out) hb); have n3_ := Aside0.mk (below_step (by repeat (first | (with_reducible first | exact HB.out | apply below_alloc | apply pw_below_drewN | apply below_drew1 | refine below_set ?_ GE278.out) | exact HB.out)) hb); have n4_ := Aside0.mk (hbox); have n5_ := Aside0.mk ((by rw [hg]; exact (below_size (by repeat (first | (with_reducible first | exact HB.out | apply below_alloc | apply pw_below_drewN | apply below_drew1 | refine below_set ?_ GE278.out) | exact HB.out))) : w.heap.size ≤ gb290)); have n6_ := Aside0.mk ((by rw [hg]; exact (below_size (by repeat (first | (with_reducible first | exact HB.out | apply below_alloc | apply pw_below_drewN | apply below_drew1 | refine below_set ?_ GE278.out) | exact HB.out))) : w.heap.size ≤ gb290)); have n7_ := Aside0.mk ((by rw [hg]; exact Nat.ne_of_lt (blk_lt (g := gb278) (o := .cells #[.int .i64 a1_0, .int .u64 a1_1, .int .u64 a1_2] 25 (0, 0)) (by (with_reducible repeat (first | refine blk_drewN ?_ _ | refine blk_drew ?_ | refine blk_alloc ?_ _)); exact BK278.out)) : gb278 ≠ gb290)); have n8_ := Aside0.mk ((by rw [hg]; exact Nat.ne_of_gt (blk_lt (g := gb278) (o := .cells #[.int .i64 a1_0, .int .u64 a1_1, .int .u64 a1_2] 25 (0, 0)) (by (with_reducible repeat (first | refine blk_drewN ?_ _ | refine blk_drew ?_ | refine blk_alloc ?_ _)); exact BK278.out)) : gb290 ≠ gb278)); clear HO_5; clear HO_50; clear BK278; clear HB; have HO_5 := n0_; have HO_50 := n1_; have BK278 := n2_; have HB := n3_; have BK290 := n4_; have GW290 := n5_; have GE290 := n6_; have NB278_290 := n7_; have NB290_278 := n8_; clear n0_ n1_ n2_ n3_ n4_ n5_ n6_ n7_ n8_; clear hb hbox hg; have hnb20 := NB290_278.out; have hnc20 := NB278_290.out; have hcz21_0 : w19.cell? ⟨gb290, 0, none⟩ = some (.int .i64 0) := (blk_cell BK290.out 0).trans rfl; have hcz21_1 : w19.cell? ⟨gb290, 1, none⟩ = some (.int .u64 0) := (blk_cell BK290.out 1).trans rfl; have hcz21_2 : w19.cell? ⟨gb290, 2, none⟩ = some (.int .u64 0) := (blk_cell BK290.out 2).trans rfl; have hfz21_0 := blk_frozen BK290.out 0; have hfz21_1 := blk_frozen BK290.out 1; have hfz21_2 := blk_frozen BK290.out 2; have hcz22_0 : w19.cell? ⟨gb278, 0, none⟩ = some (.int .i64 a1_0) := (blk_cell BK278.out 0).trans rfl; have hcz22_1 : w19.cell? ⟨gb278, 1, none⟩ = some (.int .u64 a1_1) := (blk_cell BK278.out 1).trans rfl; have hcz22_2 : w19.cell? ⟨gb278, 2, none⟩ = some (.int .u64 a1_2) := (blk_cell BK278.out 2).trans rfl; have hfz22_0 := blk_frozen BK278.out 0; have hfz22_1 := blk_frozen BK278.out 1; have hfz22_2 := blk_frozen BK278.out 2))
                repeat (go_quiet (fail); go_upto_region 13 with (first | ((with_reducible refine gate_dst (N := 11) rfl ?_); (try (refine gate_guard (by rfl) ?_; dsimp only)); refine box_event ?hg (N := 11) ?hd (cs := #[.int .i64 0, .int .u64 0, .int .u64 0]) (t := 25) ?hr ?_; (case hd => rfl); (case hg => rfl); (case hr => first | (go_simp; done) | (go_simp; rfl)); intro gb290 hg w19 hbox hb; have n0_ := Aside0.mk (Kd.V_below (Kd.V_elderB (by (with_reducible repeat (first | apply Kd.V_alloc | apply Kd.V_drewN | apply Kd.V_drew)); exact HO_5.out) gb290 (Nat.le_of_eq hg.symm)) hb); have n1_ := Aside0.mk (Kd.V_below (Kd.V_elderB (by (with_reducible repeat (first | apply Kd.V_alloc | apply Kd.V_drewN | apply Kd.V_drew)); exact HO_50.out) gb290 (Nat.le_of_eq hg.symm)) hb); have n2_ := Aside0.mk (blk_below (g := gb278) (o := .cells #[.int .i64 a1_0, .int .u64 a1_1, .int .u64 a1_2] 25 (0, 0)) (by (with_reducible repeat (first | refine blk_drewN ?_ _ | refine blk_drew ?_ | refine blk_alloc ?_ _)); exact BK278.out) hb); have n3_ := Aside0.mk (below_step (by repeat (first | (with_reducible first | exact HB.out | apply below_alloc | apply pw_below_drewN | apply below_drew1 | refine below_set ?_ GE278.out) | exact HB.out)) hb); have n4_ := Aside0.mk (hbox); have n5_ := Aside0.mk ((by rw [hg]; exact (below_size (by repeat (first | (with_reducible first | exact HB.out | apply below_alloc | apply pw_below_drewN | apply below_drew1 | refine below_set ?_ GE278.out) | exact HB.out))) : w.heap.size ≤ gb290)); have n6_ := Aside0.mk ((by rw [hg]; exact (below_size (by repeat (first | (with_reducible first | exact HB.out | apply below_alloc | apply pw_below_drewN | apply below_drew1 | refine below_set ?_ GE278.out) | exact HB.out))) : w.heap.size ≤ gb290)); have n7_ := Aside0.mk ((by rw [hg]; exact Nat.ne_of_lt (blk_lt (g := gb278) (o := .cells #[.int .i64 a1_0, .int .u64 a1_1, .int .u64 a1_2] 25 (0, 0)) (by (with_reducible repeat (first | refine blk_drewN ?_ _ | refine blk_drew ?_ | refine blk_alloc ?_ _)); exact BK278.out)) : gb278 ≠ gb290)); have n8_ := Aside0.mk ((by rw [hg]; exact Nat.ne_of_gt (blk_lt (g := gb278) (o := .cells #[.int .i64 a1_0, .int .u64 a1_1, .int .u64 a1_2] 25 (0, 0)) (by (with_reducible repeat (first | refine blk_drewN ?_ _ | refine blk_drew ?_ | refine blk_alloc ?_ _)); exact BK278.out)) : gb290 ≠ gb278)); clear HO_5; clear HO_50; clear BK278; clear HB; have HO_5 := n0_; have HO_50 := n1_; have BK278 := n2_; have HB := n3_; have BK290 := n4_; have GW290 := n5_; have GE290 := n6_; have NB278_290 := n7_; have NB290_278 := n8_; clear n0_ n1_ n2_ n3_ n4_ n5_ n6_ n7_ n8_; clear hb hbox hg; have hnb20 := NB290_278.out; have hnc20 := NB278_290.out; have hcz21_0 : w19.cell? ⟨gb290, 0, none⟩ = some (.int .i64 0) := (blk_cell BK290.out 0).trans rfl; have hcz21_1 : w19.cell? ⟨gb290, 1, none⟩ = some (.int .u64 0) := (blk_cell BK290.out 1).trans rfl; have hcz21_2 : w19.cell? ⟨gb290, 2, none⟩ = some (.int .u64 0) := (blk_cell BK290.out 2).trans rfl; have hfz21_0 := blk_frozen BK290.out 0; have hfz21_1 := blk_frozen BK290.out 1; have hfz21_2 := blk_frozen BK290.out 2; have hcz22_0 : w19.cell? ⟨gb278, 0, none⟩ = some (.int .i64 a1_0) := (blk_cell BK278.out 0).trans rfl; have hcz22_1 : w19.cell? ⟨gb278, 1, none⟩ = some (.int .u64 a1_1) := (blk_cell BK278.out 1).trans rfl; have hcz22_2 : w19.cell? ⟨gb278, 2, none⟩ = some (.int .u64 a1_2) := (blk_cell BK278.out 2).trans rfl; have hfz22_0 := blk_frozen BK278.out 0; have hfz22_1 := blk_frozen BK278.out 1; have hfz22_2 := blk_frozen BK278.out 2)))
                (try simp only [Act.put, List.setIfInBounds_toArray, List.set_cons_zero, List.set_cons_succ])
                go_cut [102] (fun v102 wc => ∃ (kq : Nat) (x102_17 : Bool), v102 = .bool x102_17 ∧ Aside0 (manometerlaw09_PointsStays.j1 kq l0 t282 t285 (wrap64 (x8_1 + 1)) x9_1 t282 (t282.length : Int) x52_1 x102_17 a1_0 a1_1 a1_2 = some r) ∧ Aside0 (kq ≤ k1) ∧ Aside0 (Kd.V k25 25 wc w.heap.size (fun k_ => k_ ≠ gb278 ∧ k_ ≠ gb290) (.slice (some ad289) t282.length co13) t282) ∧ Aside0 (Kd.V k25 25 wc w.heap.size (fun k_ => k_ ≠ gb278 ∧ k_ ≠ gb290) (.slice (some ad289) t282.length co13) t282) ∧ Aside0 (wc.heap[gb278]? = some (.cells #[.int .i64 a1_0, .int .u64 a1_1, .int .u64 a1_2] 25 (0, 0))) ∧ Aside0 (wc.heap[gb290]? = some (.cells #[.int .i64 ((rd_T25 t282 x52_1).f0), .int .u64 ((rd_T25 t282 x52_1).f1), .int .u64 ((rd_T25 t282 x52_1).f2)] 25 (0, 0))) ∧ Aside0 (Below w.heap.size w wc))
                case first =>
                  have H := HC18.out
                  clear HC18
                  replace H := Option.bind_eq_some_iff.mp H
                  obtain ⟨t291, A230, H⟩ := H
                  replace H : (if t291 = true then (manometerlaw09_PointsStays.j1 k1 l0 t282 t285 (wrap64 (x8_1 + 1)) x9_1 t282 (t282.length : Int) x52_1 true a1_0 a1_1 a1_2) else (if ((rd_T25 t282 x52_1).f1) = a1_1 then (if ((rd_T25 t282 x52_1).f2) = a1_2 then (if t285 = 2 then (manometerlaw09_PointsStays.j1 k1 l0 t282 t285 (wrap64 (x8_1 + 1)) x9_1 t282 (t282.length : Int) x52_1 false a1_0 a1_1 a1_2) else (if t285 = 4 then (manometerlaw09_PointsStays.j1 k1 l0 t282 t285 (wrap64 (x8_1 + 1)) x9_1 t282 (t282.length : Int) x52_1 (((rd_T25 t282 x52_1).f1) == a1_1) a1_0 a1_1 a1_2) else (manometerlaw09_PointsStays.j1 k1 l0 t282 t285 (wrap64 (x8_1 + 1)) x9_1 t282 (t282.length : Int) x52_1 false a1_0 a1_1 a1_2))) else (if t285 = 1 then (manometerlaw09_PointsStays.j1 k1 l0 t282 t285 (wrap64 (x8_1 + 1)) x9_1 t282 (t282.length : Int) x52_1 true a1_0 a1_1 a1_2) else (if t285 = 3 then (manometerlaw09_PointsStays.j1 k1 l0 t282 t285 (wrap64 (x8_1 + 1)) x9_1 t282 (t282.length : Int) x52_1 true a1_0 a1_1 a1_2) else (if t285 = 2 then (manometerlaw09_PointsStays.j1 k1 l0 t282 t285 (wrap64 (x8_1 + 1)) x9_1 t282 (t282.length : Int) x52_1 false a1_0 a1_1 a1_2) else (if t285 = 4 then (manometerlaw09_PointsStays.j1 k1 l0 t282 t285 (wrap64 (x8_1 + 1)) x9_1 t282 (t282.length : Int) x52_1 (((rd_T25 t282 x52_1).f1) == a1_1) a1_0 a1_1 a1_2) else (manometerlaw09_PointsStays.j1 k1 l0 t282 t285 (wrap64 (x8_1 + 1)) x9_1 t282 (t282.length : Int) x52_1 false a1_0 a1_1 a1_2)))))) else (if t285 = 1 then (manometerlaw09_PointsStays.j1 k1 l0 t282 t285 (wrap64 (x8_1 + 1)) x9_1 t282 (t282.length : Int) x52_1 true a1_0 a1_1 a1_2) else (if t285 = 3 then (manometerlaw09_PointsStays.j1 k1 l0 t282 t285 (wrap64 (x8_1 + 1)) x9_1 t282 (t282.length : Int) x52_1 true a1_0 a1_1 a1_2) else (if t285 = 2 then (manometerlaw09_PointsStays.j1 k1 l0 t282 t285 (wrap64 (x8_1 + 1)) x9_1 t282 (t282.length : Int) x52_1 true a1_0 a1_1 a1_2) else (if t285 = 4 then (manometerlaw09_PointsStays.j1 k1 l0 t282 t285 (wrap64 (x8_1 + 1)) x9_1 t282 (t282.length : Int) x52_1 (((rd_T25 t282 x52_1).f1) == a1_1) a1_0 a1_1 a1_2) else (manometerlaw09_PointsStays.j1 k1 l0 t282 t285 (wrap64 (x8_1 + 1)) x9_1 t282 (t282.length : Int) x52_1 false a1_0 a1_1 a1_2))))))) = some r := H
                  have A23 := Aside0.mk A230
                  clear A230
                  by_cases c24 : t291 = true
                  · subst c24
                    have H1 : (manometerlaw09_PointsStays.j1 k1 l0 t282 t285 (wrap64 (x8_1 + 1)) x9_1 t282 (t282.length : Int) x52_1 true a1_0 a1_1 a1_2) = some r := by rw [if_pos rfl] at H; exact H
                    clear H
                    have H := H1
                    clear H1
                    have h_ := HT_r.out
                    subst h_
                    exact absurd H (by cases k1 <;> simp [manometerlaw09_PointsStays.j1])
                  · replace c24 := Bool.eq_false_iff.mpr c24
                    subst c24
                    have H1 : (if ((rd_T25 t282 x52_1).f1) = a1_1 then (if ((rd_T25 t282 x52_1).f2) = a1_2 then (if t285 = 2 then (manometerlaw09_PointsStays.j1 k1 l0 t282 t285 (wrap64 (x8_1 + 1)) x9_1 t282 (t282.length : Int) x52_1 false a1_0 a1_1 a1_2) else (if t285 = 4 then (manometerlaw09_PointsStays.j1 k1 l0 t282 t285 (wrap64 (x8_1 + 1)) x9_1 t282 (t282.length : Int) x52_1 (((rd_T25 t282 x52_1).f1) == a1_1) a1_0 a1_1 a1_2) else (manometerlaw09_PointsStays.j1 k1 l0 t282 t285 (wrap64 (x8_1 + 1)) x9_1 t282 (t282.length : Int) x52_1 false a1_0 a1_1 a1_2))) else (if t285 = 1 then (manometerlaw09_PointsStays.j1 k1 l0 t282 t285 (wrap64 (x8_1 + 1)) x9_1 t282 (t282.length : Int) x52_1 true a1_0 a1_1 a1_2) else (if t285 = 3 then (manometerlaw09_PointsStays.j1 k1 l0 t282 t285 (wrap64 (x8_1 + 1)) x9_1 t282 (t282.length : Int) x52_1 true a1_0 a1_1 a1_2) else (if t285 = 2 then (manometerlaw09_PointsStays.j1 k1 l0 t282 t285 (wrap64 (x8_1 + 1)) x9_1 t282 (t282.length : Int) x52_1 false a1_0 a1_1 a1_2) else (if t285 = 4 then (manometerlaw09_PointsStays.j1 k1 l0 t282 t285 (wrap64 (x8_1 + 1)) x9_1 t282 (t282.length : Int) x52_1 (((rd_T25 t282 x52_1).f1) == a1_1) a1_0 a1_1 a1_2) else (manometerlaw09_PointsStays.j1 k1 l0 t282 t285 (wrap64 (x8_1 + 1)) x9_1 t282 (t282.length : Int) x52_1 false a1_0 a1_1 a1_2)))))) else (if t285 = 1 then (manometerlaw09_PointsStays.j1 k1 l0 t282 t285 (wrap64 (x8_1 + 1)) x9_1 t282 (t282.length : Int) x52_1 true a1_0 a1_1 a1_2) else (if t285 = 3 then (manometerlaw09_PointsStays.j1 k1 l0 t282 t285 (wrap64 (x8_1 + 1)) x9_1 t282 (t282.length : Int) x52_1 true a1_0 a1_1 a1_2) else (if t285 = 2 then (manometerlaw09_PointsStays.j1 k1 l0 t282 t285 (wrap64 (x8_1 + 1)) x9_1 t282 (t282.length : Int) x52_1 true a1_0 a1_1 a1_2) else (if t285 = 4 then (manometerlaw09_PointsStays.j1 k1 l0 t282 t285 (wrap64 (x8_1 + 1)) x9_1 t282 (t282.length : Int) x52_1 (((rd_T25 t282 x52_1).f1) == a1_1) a1_0 a1_1 a1_2) else (manometerlaw09_PointsStays.j1 k1 l0 t282 t285 (wrap64 (x8_1 + 1)) x9_1 t282 (t282.length : Int) x52_1 false a1_0 a1_1 a1_2)))))) = some r := by rw [if_neg (show ¬ (false = true) by decide)] at H; exact H
                    clear H
                    have H := H1
                    clear H1
                    by_cases c25 : ((rd_T25 t282 x52_1).f1) = a1_1
                    · rw [if_pos c25] at H
                      have c25b0 : (((rd_T25 t282 x52_1).f1) == a1_1) = true := beq_iff_eq.mpr c25
                      have c25b1 : (((rd_T25 t282 x52_1).f1) != a1_1) = false := bne_eq_false_iff_eq.mpr c25
                      clear c25
                      (first | rw [c25b0] | (simp only [i64_w, i32_w]; rw [c25b0]) | skip)
                      by_cases c26 : ((rd_T25 t282 x52_1).f2) = a1_2
                      · rw [if_pos c26] at H
                        have c26b0 : (((rd_T25 t282 x52_1).f2) == a1_2) = true := beq_iff_eq.mpr c26
                        have c26b1 : (((rd_T25 t282 x52_1).f2) != a1_2) = false := bne_eq_false_iff_eq.mpr c26
                        clear c26
                        by_cases c27 : t285 = 2
                        · rw [if_pos c27] at H
                          have c27b0 : (t285 == 2) = true := beq_iff_eq.mpr c27
                          have c27b1 : (t285 != 2) = false := bne_eq_false_iff_eq.mpr c27
                          have EQc27 := Aside0.mk c27
                          clear c27
                          have c28b0 : (t285 == 4) = false := by rw [show t285 = 2 from by simpa using (show (t285 == 2) = true from by assumption)]; decide
                          have c28b1 : (t285 != 4) = true := by rw [show t285 = 2 from by simpa using (show (t285 == 2) = true from by assumption)]; decide
                          have H' := Aside0.mk H
                          clear H
                          have hnb29 := NB278_290.out
                          have hnc29 := NB290_278.out
                          have hcz30_0 : w19.cell? ⟨gb278, 0, none⟩ = some (.int .i64 a1_0) := (blk_cell BK278.out 0).trans rfl
                          have hcz30_1 : w19.cell? ⟨gb278, 1, none⟩ = some (.int .u64 a1_1) := (blk_cell BK278.out 1).trans rfl
                          have hcz30_2 : w19.cell? ⟨gb278, 2, none⟩ = some (.int .u64 a1_2) := (blk_cell BK278.out 2).trans rfl
                          have hfz30_0 := blk_frozen BK278.out 0
                          have hfz30_1 := blk_frozen BK278.out 1
                          have hfz30_2 := blk_frozen BK278.out 2
                          have hcz31_0 : w19.cell? ⟨gb290, 0, none⟩ = some (.int .i64 0) := (blk_cell BK290.out 0).trans rfl
                          have hcz31_1 : w19.cell? ⟨gb290, 1, none⟩ = some (.int .u64 0) := (blk_cell BK290.out 1).trans rfl
                          have hcz31_2 : w19.cell? ⟨gb290, 2, none⟩ = some (.int .u64 0) := (blk_cell BK290.out 2).trans rfl
                          have hfz31_0 := blk_frozen BK290.out 0
                          have hfz31_1 := blk_frozen BK290.out 1
                          have hfz31_2 := blk_frozen BK290.out 2
                          go_wp2_with (first | (go_at_call 16; (with_reducible refine (points_Ahead.calls a1_0 a1_1 a1_2 ((rd_T25 t282 x52_1).f0) ((rd_T25 t282 x52_1).f1) ((rd_T25 t282 x52_1).f2) false _ A23.out).mono ?_); rintro e w32 ⟨rfl, hb⟩; have n0_ := Aside0.mk (Kd.V_below (by (with_reducible repeat (first | apply Kd.V_alloc | apply Kd.V_drewN | apply Kd.V_drew)); exact (Kd.V_mono (Kd.V_far (p := ⟨gb290, 2, none⟩) (Kd.V_far (p := ⟨gb290, 1, none⟩) (Kd.V_far (p := ⟨gb290, 0, none⟩) (Kd.V_mono HO_5.out (fun k_ hk => (⟨hk, hk.2⟩ : _ ∧ k_ ≠ gb290))) (fun _ hk => hk.2) (.int .i64 ((rd_T25 t282 x52_1).f0))) (fun _ hk => hk.2) (.int .u64 ((rd_T25 t282 x52_1).f1))) (fun _ hk => hk.2) (.int .u64 ((rd_T25 t282 x52_1).f2))) (fun _ h_ => h_.1))) hb); have n1_ := Aside0.mk (Kd.V_below (by (with_reducible repeat (first | apply Kd.V_alloc | apply Kd.V_drewN | apply Kd.V_drew)); exact (Kd.V_mono (Kd.V_far (p := ⟨gb290, 2, none⟩) (Kd.V_far (p := ⟨gb290, 1, none⟩) (Kd.V_far (p := ⟨gb290, 0, none⟩) (Kd.V_mono HO_50.out (fun k_ hk => (⟨hk, hk.2⟩ : _ ∧ k_ ≠ gb290))) (fun _ hk => hk.2) (.int .i64 ((rd_T25 t282 x52_1).f0))) (fun _ hk => hk.2) (.int .u64 ((rd_T25 t282 x52_1).f1))) (fun _ hk => hk.2) (.int .u64 ((rd_T25 t282 x52_1).f2))) (fun _ h_ => h_.1))) hb); have n2_ := Aside0.mk (blk_below (g := gb278) (o := .cells #[.int .i64 a1_0, .int .u64 a1_1, .int .u64 a1_2] 25 (0, 0)) (by (with_reducible repeat (first | refine blk_drewN ?_ _ | refine blk_drew ?_ | refine blk_alloc ?_ _)); refine blk_far ?_ NB278_290.out _; (with_reducible repeat (first | refine blk_drewN ?_ _ | refine blk_drew ?_ | refine blk_alloc ?_ _)); refine blk_far ?_ NB278_290.out _; (with_reducible repeat (first | refine blk_drewN ?_ _ | refine blk_drew ?_ | refine blk_alloc ?_ _)); refine blk_far ?_ NB278_290.out _; (with_reducible repeat (first | refine blk_drewN ?_ _ | refine blk_drew ?_ | refine blk_alloc ?_ _)); exact BK278.out) hb); have n3_ := Aside0.mk (blk_below (g := gb290) (o := .cells #[.int .i64 ((rd_T25 t282 x52_1).f0), .int .u64 ((rd_T25 t282 x52_1).f1), .int .u64 ((rd_T25 t282 x52_1).f2)] 25 (0, 0)) (by (with_reducible repeat (first | refine blk_drewN ?_ _ | refine blk_drew ?_ | refine blk_alloc ?_ _)); refine blk_put (cs := #[.int .i64 ((rd_T25 t282 x52_1).f0), .int .u64 ((rd_T25 t282 x52_1).f1), .int .u64 0]) ?_ 2 _ rfl; (with_reducible repeat (first | refine blk_drewN ?_ _ | refine blk_drew ?_ | refine blk_alloc ?_ _)); refine blk_put (cs := #[.int .i64 ((rd_T25 t282 x52_1).f0), .int .u64 0, .int .u64 0]) ?_ 1 _ rfl; (with_reducible repeat (first | refine blk_drewN ?_ _ | refine blk_drew ?_ | refine blk_alloc ?_ _)); refine blk_put (cs := #[.int .i64 0, .int .u64 0, .int .u64 0]) ?_ 0 _ rfl; (with_reducible repeat (first | refine blk_drewN ?_ _ | refine blk_drew ?_ | refine blk_alloc ?_ _)); exact BK290.out) hb); have n4_ := Aside0.mk (below_step (by repeat (first | (with_reducible first | exact HB.out | apply below_alloc | apply pw_below_drewN | apply below_drew1 | refine below_set ?_ GE278.out | refine below_set ?_ GE290.out) | exact HB.out)) hb); clear HO_5; clear HO_50; clear BK278; clear BK290; clear HB; have HO_5 := n0_; have HO_50 := n1_; have BK278 := n2_; have BK290 := n3_; have HB := n4_; clear n0_ n1_ n2_ n3_ n4_; (try clear hb); (try clear hb2); (try clear hk); (try clear hi); have hcz33_0 : w32.cell? ⟨gb290, 0, none⟩ = some (.int .i64 ((rd_T25 t282 x52_1).f0)) := (blk_cell BK290.out 0).trans rfl; have hcz33_1 : w32.cell? ⟨gb290, 1, none⟩ = some (.int .u64 ((rd_T25 t282 x52_1).f1)) := (blk_cell BK290.out 1).trans rfl; have hcz33_2 : w32.cell? ⟨gb290, 2, none⟩ = some (.int .u64 ((rd_T25 t282 x52_1).f2)) := (blk_cell BK290.out 2).trans rfl; have hfz33_0 := blk_frozen BK290.out 0; have hfz33_1 := blk_frozen BK290.out 1; have hfz33_2 := blk_frozen BK290.out 2; have hcz34_0 : w32.cell? ⟨gb278, 0, none⟩ = some (.int .i64 a1_0) := (blk_cell BK278.out 0).trans rfl; have hcz34_1 : w32.cell? ⟨gb278, 1, none⟩ = some (.int .u64 a1_1) := (blk_cell BK278.out 1).trans rfl; have hcz34_2 : w32.cell? ⟨gb278, 2, none⟩ = some (.int .u64 a1_2) := (blk_cell BK278.out 2).trans rfl; have hfz34_0 := blk_frozen BK278.out 0; have hfz34_1 := blk_frozen BK278.out 1; have hfz34_2 := blk_frozen BK278.out 2))
                          repeat (go_quiet (fail); try go_wp2_with (first | (go_at_call 16; (with_reducible refine (points_Ahead.calls a1_0 a1_1 a1_2 ((rd_T25 t282 x52_1).f0) ((rd_T25 t282 x52_1).f1) ((rd_T25 t282 x52_1).f2) false _ A23.out).mono ?_); rintro e w32 ⟨rfl, hb⟩; have n0_ := Aside0.mk (Kd.V_below (by (with_reducible repeat (first | apply Kd.V_alloc | apply Kd.V_drewN | apply Kd.V_drew)); exact (Kd.V_mono (Kd.V_far (p := ⟨gb290, 2, none⟩) (Kd.V_far (p := ⟨gb290, 1, none⟩) (Kd.V_far (p := ⟨gb290, 0, none⟩) (Kd.V_mono HO_5.out (fun k_ hk => (⟨hk, hk.2⟩ : _ ∧ k_ ≠ gb290))) (fun _ hk => hk.2) (.int .i64 ((rd_T25 t282 x52_1).f0))) (fun _ hk => hk.2) (.int .u64 ((rd_T25 t282 x52_1).f1))) (fun _ hk => hk.2) (.int .u64 ((rd_T25 t282 x52_1).f2))) (fun _ h_ => h_.1))) hb); have n1_ := Aside0.mk (Kd.V_below (by (with_reducible repeat (first | apply Kd.V_alloc | apply Kd.V_drewN | apply Kd.V_drew)); exact (Kd.V_mono (Kd.V_far (p := ⟨gb290, 2, none⟩) (Kd.V_far (p := ⟨gb290, 1, none⟩) (Kd.V_far (p := ⟨gb290, 0, none⟩) (Kd.V_mono HO_50.out (fun k_ hk => (⟨hk, hk.2⟩ : _ ∧ k_ ≠ gb290))) (fun _ hk => hk.2) (.int .i64 ((rd_T25 t282 x52_1).f0))) (fun _ hk => hk.2) (.int .u64 ((rd_T25 t282 x52_1).f1))) (fun _ hk => hk.2) (.int .u64 ((rd_T25 t282 x52_1).f2))) (fun _ h_ => h_.1))) hb); have n2_ := Aside0.mk (blk_below (g := gb278) (o := .cells #[.int .i64 a1_0, .int .u64 a1_1, .int .u64 a1_2] 25 (0, 0)) (by (with_reducible repeat (first | refine blk_drewN ?_ _ | refine blk_drew ?_ | refine blk_alloc ?_ _)); refine blk_far ?_ NB278_290.out _; (with_reducible repeat (first | refine blk_drewN ?_ _ | refine blk_drew ?_ | refine blk_alloc ?_ _)); refine blk_far ?_ NB278_290.out _; (with_reducible repeat (first | refine blk_drewN ?_ _ | refine blk_drew ?_ | refine blk_alloc ?_ _)); refine blk_far ?_ NB278_290.out _; (with_reducible repeat (first | refine blk_drewN ?_ _ | refine blk_drew ?_ | refine blk_alloc ?_ _)); exact BK278.out) hb); have n3_ := Aside0.mk (blk_below (g := gb290) (o := .cells #[.int .i64 ((rd_T25 t282 x52_1).f0), .int .u64 ((rd_T25 t282 x52_1).f1), .int .u64 ((rd_T25 t282 x52_1).f2)] 25 (0, 0)) (by (with_reducible repeat (first | refine blk_drewN ?_ _ | refine blk_drew ?_ | refine blk_alloc ?_ _)); refine blk_put (cs := #[.int .i64 ((rd_T25 t282 x52_1).f0), .int .u64 ((rd_T25 t282 x52_1).f1), .int .u64 0]) ?_ 2 _ rfl; (with_reducible repeat (first | refine blk_drewN ?_ _ | refine blk_drew ?_ | refine blk_alloc ?_ _)); refine blk_put (cs := #[.int .i64 ((rd_T25 t282 x52_1).f0), .int .u64 0, .int .u64 0]) ?_ 1 _ rfl; (with_reducible repeat (first | refine blk_drewN ?_ _ | refine blk_drew ?_ | refine blk_alloc ?_ _)); refine blk_put (cs := #[.int .i64 0, .int .u64 0, .int .u64 0]) ?_ 0 _ rfl; (with_reducible repeat (first | refine blk_drewN ?_ _ | refine blk_drew ?_ | refine blk_alloc ?_ _)); exact BK290.out) hb); have n4_ := Aside0.mk (below_step (by repeat (first | (with_reducible first | exact HB.out | apply below_alloc | apply pw_below_drewN | apply below_drew1 | refine below_set ?_ GE278.out | refine below_set ?_ GE290.out) | exact HB.out)) hb); clear HO_5; clear HO_50; clear BK278; clear BK290; clear HB; have HO_5 := n0_; have HO_50 := n1_; have BK278 := n2_; have BK290 := n3_; have HB := n4_; clear n0_ n1_ n2_ n3_ n4_; (try clear hb); (try clear hb2); (try clear hk); (try clear hi); have hcz33_0 : w32.cell? ⟨gb290, 0, none⟩ = some (.int .i64 ((rd_T25 t282 x52_1).f0)) := (blk_cell BK290.out 0).trans rfl; have hcz33_1 : w32.cell? ⟨gb290, 1, none⟩ = some (.int .u64 ((rd_T25 t282 x52_1).f1)) := (blk_cell BK290.out 1).trans rfl; have hcz33_2 : w32.cell? ⟨gb290, 2, none⟩ = some (.int .u64 ((rd_T25 t282 x52_1).f2)) := (blk_cell BK290.out 2).trans rfl; have hfz33_0 := blk_frozen BK290.out 0; have hfz33_1 := blk_frozen BK290.out 1; have hfz33_2 := blk_frozen BK290.out 2; have hcz34_0 : w32.cell? ⟨gb278, 0, none⟩ = some (.int .i64 a1_0) := (blk_cell BK278.out 0).trans rfl; have hcz34_1 : w32.cell? ⟨gb278, 1, none⟩ = some (.int .u64 a1_1) := (blk_cell BK278.out 1).trans rfl; have hcz34_2 : w32.cell? ⟨gb278, 2, none⟩ = some (.int .u64 a1_2) := (blk_cell BK278.out 2).trans rfl; have hfz34_0 := blk_frozen BK278.out 0; have hfz34_1 := blk_frozen BK278.out 1; have hfz34_2 := blk_frozen BK278.out 2)))
                          obtain rfl := EQc27.out
                          go_meet
                          case rel => exact ⟨_, (false), (by first | rfl | (simp; done) | (simp [*]; done)), H', ⟨by have := HK1.out; first | omega | exact Nat.le_refl _⟩, ⟨by (with_reducible repeat (first | apply Kd.V_alloc | apply Kd.V_drewN | apply Kd.V_drew)); exact HO_5.out⟩, ⟨by (with_reducible repeat (first | apply Kd.V_alloc | apply Kd.V_drewN | apply Kd.V_drew)); exact HO_50.out⟩, ⟨by (with_reducible repeat (first | refine blk_drewN ?_ _ | refine blk_drew ?_ | refine blk_alloc ?_ _)); exact BK278.out⟩, ⟨by (with_reducible repeat (first | refine blk_drewN ?_ _ | refine blk_drew ?_ | refine blk_alloc ?_ _)); exact BK290.out⟩, ⟨by repeat (first | (with_reducible first | exact HB.out | apply below_alloc | apply pw_below_drewN | apply below_drew1 | refine below_set ?_ GE278.out | refine below_set ?_ GE290.out) | exact HB.out)⟩⟩
                        · rw [if_neg c27] at H
                          have c27b0 : (t285 == 2) = false := beq_eq_false_iff_ne.mpr c27
                          have c27b1 : (t285 != 2) = true := bne_iff_ne.mpr c27
                          by_cases c35 : t285 = 4
                          · rw [if_pos c35] at H
                            have c35b0 : (t285 == 4) = true := beq_iff_eq.mpr c35
                            have c35b1 : (t285 != 4) = false := bne_eq_false_iff_eq.mpr c35
                            have EQc35 := Aside0.mk c35
                            clear c35
                            have H' := Aside0.mk H
                            clear H
                            have hnb36 := NB278_290.out
                            have hnc36 := NB290_278.out
                            have hcz37_0 : w19.cell? ⟨gb278, 0, none⟩ = some (.int .i64 a1_0) := (blk_cell BK278.out 0).trans rfl
                            have hcz37_1 : w19.cell? ⟨gb278, 1, none⟩ = some (.int .u64 a1_1) := (blk_cell BK278.out 1).trans rfl
                            have hcz37_2 : w19.cell? ⟨gb278, 2, none⟩ = some (.int .u64 a1_2) := (blk_cell BK278.out 2).trans rfl
                            have hfz37_0 := blk_frozen BK278.out 0
                            have hfz37_1 := blk_frozen BK278.out 1
                            have hfz37_2 := blk_frozen BK278.out 2
                            have hcz38_0 : w19.cell? ⟨gb290, 0, none⟩ = some (.int .i64 0) := (blk_cell BK290.out 0).trans rfl
                            have hcz38_1 : w19.cell? ⟨gb290, 1, none⟩ = some (.int .u64 0) := (blk_cell BK290.out 1).trans rfl
                            have hcz38_2 : w19.cell? ⟨gb290, 2, none⟩ = some (.int .u64 0) := (blk_cell BK290.out 2).trans rfl
                            have hfz38_0 := blk_frozen BK290.out 0
                            have hfz38_1 := blk_frozen BK290.out 1
                            have hfz38_2 := blk_frozen BK290.out 2
                            go_wp2_with (first | (go_at_call 16; (with_reducible refine (points_Ahead.calls a1_0 a1_1 a1_2 ((rd_T25 t282 x52_1).f0) ((rd_T25 t282 x52_1).f1) ((rd_T25 t282 x52_1).f2) false _ A23.out).mono ?_); rintro e w39 ⟨rfl, hb⟩; have n0_ := Aside0.mk (Kd.V_below (by (with_reducible repeat (first | apply Kd.V_alloc | apply Kd.V_drewN | apply Kd.V_drew)); exact (Kd.V_mono (Kd.V_far (p := ⟨gb290, 2, none⟩) (Kd.V_far (p := ⟨gb290, 1, none⟩) (Kd.V_far (p := ⟨gb290, 0, none⟩) (Kd.V_mono HO_5.out (fun k_ hk => (⟨hk, hk.2⟩ : _ ∧ k_ ≠ gb290))) (fun _ hk => hk.2) (.int .i64 ((rd_T25 t282 x52_1).f0))) (fun _ hk => hk.2) (.int .u64 ((rd_T25 t282 x52_1).f1))) (fun _ hk => hk.2) (.int .u64 ((rd_T25 t282 x52_1).f2))) (fun _ h_ => h_.1))) hb); have n1_ := Aside0.mk (Kd.V_below (by (with_reducible repeat (first | apply Kd.V_alloc | apply Kd.V_drewN | apply Kd.V_drew)); exact (Kd.V_mono (Kd.V_far (p := ⟨gb290, 2, none⟩) (Kd.V_far (p := ⟨gb290, 1, none⟩) (Kd.V_far (p := ⟨gb290, 0, none⟩) (Kd.V_mono HO_50.out (fun k_ hk => (⟨hk, hk.2⟩ : _ ∧ k_ ≠ gb290))) (fun _ hk => hk.2) (.int .i64 ((rd_T25 t282 x52_1).f0))) (fun _ hk => hk.2) (.int .u64 ((rd_T25 t282 x52_1).f1))) (fun _ hk => hk.2) (.int .u64 ((rd_T25 t282 x52_1).f2))) (fun _ h_ => h_.1))) hb); have n2_ := Aside0.mk (blk_below (g := gb278) (o := .cells #[.int .i64 a1_0, .int .u64 a1_1, .int .u64 a1_2] 25 (0, 0)) (by (with_reducible repeat (first | refine blk_drewN ?_ _ | refine blk_drew ?_ | refine blk_alloc ?_ _)); refine blk_far ?_ NB278_290.out _; (with_reducible repeat (first | refine blk_drewN ?_ _ | refine blk_drew ?_ | refine blk_alloc ?_ _)); refine blk_far ?_ NB278_290.out _; (with_reducible repeat (first | refine blk_drewN ?_ _ | refine blk_drew ?_ | refine blk_alloc ?_ _)); refine blk_far ?_ NB278_290.out _; (with_reducible repeat (first | refine blk_drewN ?_ _ | refine blk_drew ?_ | refine blk_alloc ?_ _)); exact BK278.out) hb); have n3_ := Aside0.mk (blk_below (g := gb290) (o := .cells #[.int .i64 ((rd_T25 t282 x52_1).f0), .int .u64 ((rd_T25 t282 x52_1).f1), .int .u64 ((rd_T25 t282 x52_1).f2)] 25 (0, 0)) (by (with_reducible repeat (first | refine blk_drewN ?_ _ | refine blk_drew ?_ | refine blk_alloc ?_ _)); refine blk_put (cs := #[.int .i64 ((rd_T25 t282 x52_1).f0), .int .u64 ((rd_T25 t282 x52_1).f1), .int .u64 0]) ?_ 2 _ rfl; (with_reducible repeat (first | refine blk_drewN ?_ _ | refine blk_drew ?_ | refine blk_alloc ?_ _)); refine blk_put (cs := #[.int .i64 ((rd_T25 t282 x52_1).f0), .int .u64 0, .int .u64 0]) ?_ 1 _ rfl; (with_reducible repeat (first | refine blk_drewN ?_ _ | refine blk_drew ?_ | refine blk_alloc ?_ _)); refine blk_put (cs := #[.int .i64 0, .int .u64 0, .int .u64 0]) ?_ 0 _ rfl; (with_reducible repeat (first | refine blk_drewN ?_ _ | refine blk_drew ?_ | refine blk_alloc ?_ _)); exact BK290.out) hb); have n4_ := Aside0.mk (below_step (by repeat (first | (with_reducible first | exact HB.out | apply below_alloc | apply pw_below_drewN | apply below_drew1 | refine below_set ?_ GE278.out | refine below_set ?_ GE290.out) | exact HB.out)) hb); clear HO_5; clear HO_50; clear BK278; clear BK290; clear HB; have HO_5 := n0_; have HO_50 := n1_; have BK278 := n2_; have BK290 := n3_; have HB := n4_; clear n0_ n1_ n2_ n3_ n4_; (try clear hb); (try clear hb2); (try clear hk); (try clear hi); have hcz40_0 : w39.cell? ⟨gb290, 0, none⟩ = some (.int .i64 ((rd_T25 t282 x52_1).f0)) := (blk_cell BK290.out 0).trans rfl; have hcz40_1 : w39.cell? ⟨gb290, 1, none⟩ = some (.int .u64 ((rd_T25 t282 x52_1).f1)) := (blk_cell BK290.out 1).trans rfl; have hcz40_2 : w39.cell? ⟨gb290, 2, none⟩ = some (.int .u64 ((rd_T25 t282 x52_1).f2)) := (blk_cell BK290.out 2).trans rfl; have hfz40_0 := blk_frozen BK290.out 0; have hfz40_1 := blk_frozen BK290.out 1; have hfz40_2 := blk_frozen BK290.out 2; have hcz41_0 : w39.cell? ⟨gb278, 0, none⟩ = some (.int .i64 a1_0) := (blk_cell BK278.out 0).trans rfl; have hcz41_1 : w39.cell? ⟨gb278, 1, none⟩ = some (.int .u64 a1_1) := (blk_cell BK278.out 1).trans rfl; have hcz41_2 : w39.cell? ⟨gb278, 2, none⟩ = some (.int .u64 a1_2) := (blk_cell BK278.out 2).trans rfl; have hfz41_0 := blk_frozen BK278.out 0; have hfz41_1 := blk_frozen BK278.out 1; have hfz41_2 := blk_frozen BK278.out 2))
                            repeat (go_quiet (fail); try go_wp2_with (first | (go_at_call 16; (with_reducible refine (points_Ahead.calls a1_0 a1_1 a1_2 ((rd_T25 t282 x52_1).f0) ((rd_T25 t282 x52_1).f1) ((rd_T25 t282 x52_1).f2) false _ A23.out).mono ?_); rintro e w39 ⟨rfl, hb⟩; have n0_ := Aside0.mk (Kd.V_below (by (with_reducible repeat (first | apply Kd.V_alloc | apply Kd.V_drewN | apply Kd.V_drew)); exact (Kd.V_mono (Kd.V_far (p := ⟨gb290, 2, none⟩) (Kd.V_far (p := ⟨gb290, 1, none⟩) (Kd.V_far (p := ⟨gb290, 0, none⟩) (Kd.V_mono HO_5.out (fun k_ hk => (⟨hk, hk.2⟩ : _ ∧ k_ ≠ gb290))) (fun _ hk => hk.2) (.int .i64 ((rd_T25 t282 x52_1).f0))) (fun _ hk => hk.2) (.int .u64 ((rd_T25 t282 x52_1).f1))) (fun _ hk => hk.2) (.int .u64 ((rd_T25 t282 x52_1).f2))) (fun _ h_ => h_.1))) hb); have n1_ := Aside0.mk (Kd.V_below (by (with_reducible repeat (first | apply Kd.V_alloc | apply Kd.V_drewN | apply Kd.V_drew)); exact (Kd.V_mono (Kd.V_far (p := ⟨gb290, 2, none⟩) (Kd.V_far (p := ⟨gb290, 1, none⟩) (Kd.V_far (p := ⟨gb290, 0, none⟩) (Kd.V_mono HO_50.out (fun k_ hk => (⟨hk, hk.2⟩ : _ ∧ k_ ≠ gb290))) (fun _ hk => hk.2) (.int .i64 ((rd_T25 t282 x52_1).f0))) (fun _ hk => hk.2) (.int .u64 ((rd_T25 t282 x52_1).f1))) (fun _ hk => hk.2) (.int .u64 ((rd_T25 t282 x52_1).f2))) (fun _ h_ => h_.1))) hb); have n2_ := Aside0.mk (blk_below (g := gb278) (o := .cells #[.int .i64 a1_0, .int .u64 a1_1, .int .u64 a1_2] 25 (0, 0)) (by (with_reducible repeat (first | refine blk_drewN ?_ _ | refine blk_drew ?_ | refine blk_alloc ?_ _)); refine blk_far ?_ NB278_290.out _; (with_reducible repeat (first | refine blk_drewN ?_ _ | refine blk_drew ?_ | refine blk_alloc ?_ _)); refine blk_far ?_ NB278_290.out _; (with_reducible repeat (first | refine blk_drewN ?_ _ | refine blk_drew ?_ | refine blk_alloc ?_ _)); refine blk_far ?_ NB278_290.out _; (with_reducible repeat (first | refine blk_drewN ?_ _ | refine blk_drew ?_ | refine blk_alloc ?_ _)); exact BK278.out) hb); have n3_ := Aside0.mk (blk_below (g := gb290) (o := .cells #[.int .i64 ((rd_T25 t282 x52_1).f0), .int .u64 ((rd_T25 t282 x52_1).f1), .int .u64 ((rd_T25 t282 x52_1).f2)] 25 (0, 0)) (by (with_reducible repeat (first | refine blk_drewN ?_ _ | refine blk_drew ?_ | refine blk_alloc ?_ _)); refine blk_put (cs := #[.int .i64 ((rd_T25 t282 x52_1).f0), .int .u64 ((rd_T25 t282 x52_1).f1), .int .u64 0]) ?_ 2 _ rfl; (with_reducible repeat (first | refine blk_drewN ?_ _ | refine blk_drew ?_ | refine blk_alloc ?_ _)); refine blk_put (cs := #[.int .i64 ((rd_T25 t282 x52_1).f0), .int .u64 0, .int .u64 0]) ?_ 1 _ rfl; (with_reducible repeat (first | refine blk_drewN ?_ _ | refine blk_drew ?_ | refine blk_alloc ?_ _)); refine blk_put (cs := #[.int .i64 0, .int .u64 0, .int .u64 0]) ?_ 0 _ rfl; (with_reducible repeat (first | refine blk_drewN ?_ _ | refine blk_drew ?_ | refine blk_alloc ?_ _)); exact BK290.out) hb); have n4_ := Aside0.mk (below_step (by repeat (first | (with_reducible first | exact HB.out | apply below_alloc | apply pw_below_drewN | apply below_drew1 | refine below_set ?_ GE278.out | refine below_set ?_ GE290.out) | exact HB.out)) hb); clear HO_5; clear HO_50; clear BK278; clear BK290; clear HB; have HO_5 := n0_; have HO_50 := n1_; have BK278 := n2_; have BK290 := n3_; have HB := n4_; clear n0_ n1_ n2_ n3_ n4_; (try clear hb); (try clear hb2); (try clear hk); (try clear hi); have hcz40_0 : w39.cell? ⟨gb290, 0, none⟩ = some (.int .i64 ((rd_T25 t282 x52_1).f0)) := (blk_cell BK290.out 0).trans rfl; have hcz40_1 : w39.cell? ⟨gb290, 1, none⟩ = some (.int .u64 ((rd_T25 t282 x52_1).f1)) := (blk_cell BK290.out 1).trans rfl; have hcz40_2 : w39.cell? ⟨gb290, 2, none⟩ = some (.int .u64 ((rd_T25 t282 x52_1).f2)) := (blk_cell BK290.out 2).trans rfl; have hfz40_0 := blk_frozen BK290.out 0; have hfz40_1 := blk_frozen BK290.out 1; have hfz40_2 := blk_frozen BK290.out 2; have hcz41_0 : w39.cell? ⟨gb278, 0, none⟩ = some (.int .i64 a1_0) := (blk_cell BK278.out 0).trans rfl; have hcz41_1 : w39.cell? ⟨gb278, 1, none⟩ = some (.int .u64 a1_1) := (blk_cell BK278.out 1).trans rfl; have hcz41_2 : w39.cell? ⟨gb278, 2, none⟩ = some (.int .u64 a1_2) := (blk_cell BK278.out 2).trans rfl; have hfz41_0 := blk_frozen BK278.out 0; have hfz41_1 := blk_frozen BK278.out 1; have hfz41_2 := blk_frozen BK278.out 2)))
                            obtain rfl := EQc35.out
                            go_meet
                            case rel => exact ⟨_, ((((rd_T25 t282 x52_1).f1) == a1_1)), (by first | rfl | (simp; done) | (simp [*]; done)), H', ⟨by have := HK1.out; first | omega | exact Nat.le_refl _⟩, ⟨by (with_reducible repeat (first | apply Kd.V_alloc | apply Kd.V_drewN | apply Kd.V_drew)); exact HO_5.out⟩, ⟨by (with_reducible repeat (first | apply Kd.V_alloc | apply Kd.V_drewN | apply Kd.V_drew)); exact HO_50.out⟩, ⟨by (with_reducible repeat (first | refine blk_drewN ?_ _ | refine blk_drew ?_ | refine blk_alloc ?_ _)); exact BK278.out⟩, ⟨by (with_reducible repeat (first | refine blk_drewN ?_ _ | refine blk_drew ?_ | refine blk_alloc ?_ _)); exact BK290.out⟩, ⟨by repeat (first | (with_reducible first | exact HB.out | apply below_alloc | apply pw_below_drewN | apply below_drew1 | refine below_set ?_ GE278.out | refine below_set ?_ GE290.out) | exact HB.out)⟩⟩
                          · rw [if_neg c35] at H
                            have c35b0 : (t285 == 4) = false := beq_eq_false_iff_ne.mpr c35
                            have c35b1 : (t285 != 4) = true := bne_iff_ne.mpr c35
                            have H' := Aside0.mk H
                            clear H
                            have hnb42 := NB278_290.out
                            have hnc42 := NB290_278.out
                            have hcz43_0 : w19.cell? ⟨gb278, 0, none⟩ = some (.int .i64 a1_0) := (blk_cell BK278.out 0).trans rfl
                            have hcz43_1 : w19.cell? ⟨gb278, 1, none⟩ = some (.int .u64 a1_1) := (blk_cell BK278.out 1).trans rfl
                            have hcz43_2 : w19.cell? ⟨gb278, 2, none⟩ = some (.int .u64 a1_2) := (blk_cell BK278.out 2).trans rfl
                            have hfz43_0 := blk_frozen BK278.out 0
                            have hfz43_1 := blk_frozen BK278.out 1
                            have hfz43_2 := blk_frozen BK278.out 2
                            have hcz44_0 : w19.cell? ⟨gb290, 0, none⟩ = some (.int .i64 0) := (blk_cell BK290.out 0).trans rfl
                            have hcz44_1 : w19.cell? ⟨gb290, 1, none⟩ = some (.int .u64 0) := (blk_cell BK290.out 1).trans rfl
                            have hcz44_2 : w19.cell? ⟨gb290, 2, none⟩ = some (.int .u64 0) := (blk_cell BK290.out 2).trans rfl
                            have hfz44_0 := blk_frozen BK290.out 0
                            have hfz44_1 := blk_frozen BK290.out 1
                            have hfz44_2 := blk_frozen BK290.out 2
                            go_wp2_with (first | (go_at_call 16; (with_reducible refine (points_Ahead.calls a1_0 a1_1 a1_2 ((rd_T25 t282 x52_1).f0) ((rd_T25 t282 x52_1).f1) ((rd_T25 t282 x52_1).f2) false _ A23.out).mono ?_); rintro e w45 ⟨rfl, hb⟩; have n0_ := Aside0.mk (Kd.V_below (by (with_reducible repeat (first | apply Kd.V_alloc | apply Kd.V_drewN | apply Kd.V_drew)); exact (Kd.V_mono (Kd.V_far (p := ⟨gb290, 2, none⟩) (Kd.V_far (p := ⟨gb290, 1, none⟩) (Kd.V_far (p := ⟨gb290, 0, none⟩) (Kd.V_mono HO_5.out (fun k_ hk => (⟨hk, hk.2⟩ : _ ∧ k_ ≠ gb290))) (fun _ hk => hk.2) (.int .i64 ((rd_T25 t282 x52_1).f0))) (fun _ hk => hk.2) (.int .u64 ((rd_T25 t282 x52_1).f1))) (fun _ hk => hk.2) (.int .u64 ((rd_T25 t282 x52_1).f2))) (fun _ h_ => h_.1))) hb); have n1_ := Aside0.mk (Kd.V_below (by (with_reducible repeat (first | apply Kd.V_alloc | apply Kd.V_drewN | apply Kd.V_drew)); exact (Kd.V_mono (Kd.V_far (p := ⟨gb290, 2, none⟩) (Kd.V_far (p := ⟨gb290, 1, none⟩) (Kd.V_far (p := ⟨gb290, 0, none⟩) (Kd.V_mono HO_50.out (fun k_ hk => (⟨hk, hk.2⟩ : _ ∧ k_ ≠ gb290))) (fun _ hk => hk.2) (.int .i64 ((rd_T25 t282 x52_1).f0))) (fun _ hk => hk.2) (.int .u64 ((rd_T25 t282 x52_1).f1))) (fun _ hk => hk.2) (.int .u64 ((rd_T25 t282 x52_1).f2))) (fun _ h_ => h_.1))) hb); have n2_ := Aside0.mk (blk_below (g := gb278) (o := .cells #[.int .i64 a1_0, .int .u64 a1_1, .int .u64 a1_2] 25 (0, 0)) (by (with_reducible repeat (first | refine blk_drewN ?_ _ | refine blk_drew ?_ | refine blk_alloc ?_ _)); refine blk_far ?_ NB278_290.out _; (with_reducible repeat (first | refine blk_drewN ?_ _ | refine blk_drew ?_ | refine blk_alloc ?_ _)); refine blk_far ?_ NB278_290.out _; (with_reducible repeat (first | refine blk_drewN ?_ _ | refine blk_drew ?_ | refine blk_alloc ?_ _)); refine blk_far ?_ NB278_290.out _; (with_reducible repeat (first | refine blk_drewN ?_ _ | refine blk_drew ?_ | refine blk_alloc ?_ _)); exact BK278.out) hb); have n3_ := Aside0.mk (blk_below (g := gb290) (o := .cells #[.int .i64 ((rd_T25 t282 x52_1).f0), .int .u64 ((rd_T25 t282 x52_1).f1), .int .u64 ((rd_T25 t282 x52_1).f2)] 25 (0, 0)) (by (with_reducible repeat (first | refine blk_drewN ?_ _ | refine blk_drew ?_ | refine blk_alloc ?_ _)); refine blk_put (cs := #[.int .i64 ((rd_T25 t282 x52_1).f0), .int .u64 ((rd_T25 t282 x52_1).f1), .int .u64 0]) ?_ 2 _ rfl; (with_reducible repeat (first | refine blk_drewN ?_ _ | refine blk_drew ?_ | refine blk_alloc ?_ _)); refine blk_put (cs := #[.int .i64 ((rd_T25 t282 x52_1).f0), .int .u64 0, .int .u64 0]) ?_ 1 _ rfl; (with_reducible repeat (first | refine blk_drewN ?_ _ | refine blk_drew ?_ | refine blk_alloc ?_ _)); refine blk_put (cs := #[.int .i64 0, .int .u64 0, .int .u64 0]) ?_ 0 _ rfl; (with_reducible repeat (first | refine blk_drewN ?_ _ | refine blk_drew ?_ | refine blk_alloc ?_ _)); exact BK290.out) hb); have n4_ := Aside0.mk (below_step (by repeat (first | (with_reducible first | exact HB.out | apply below_alloc | apply pw_below_drewN | apply below_drew1 | refine below_set ?_ GE278.out | refine below_set ?_ GE290.out) | exact HB.out)) hb); clear HO_5; clear HO_50; clear BK278; clear BK290; clear HB; have HO_5 := n0_; have HO_50 := n1_; have BK278 := n2_; have BK290 := n3_; have HB := n4_; clear n0_ n1_ n2_ n3_ n4_; (try clear hb); (try clear hb2); (try clear hk); (try clear hi); have hcz46_0 : w45.cell? ⟨gb290, 0, none⟩ = some (.int .i64 ((rd_T25 t282 x52_1).f0)) := (blk_cell BK290.out 0).trans rfl; have hcz46_1 : w45.cell? ⟨gb290, 1, none⟩ = some (.int .u64 ((rd_T25 t282 x52_1).f1)) := (blk_cell BK290.out 1).trans rfl; have hcz46_2 : w45.cell? ⟨gb290, 2, none⟩ = some (.int .u64 ((rd_T25 t282 x52_1).f2)) := (blk_cell BK290.out 2).trans rfl; have hfz46_0 := blk_frozen BK290.out 0; have hfz46_1 := blk_frozen BK290.out 1; have hfz46_2 := blk_frozen BK290.out 2; have hcz47_0 : w45.cell? ⟨gb278, 0, none⟩ = some (.int .i64 a1_0) := (blk_cell BK278.out 0).trans rfl; have hcz47_1 : w45.cell? ⟨gb278, 1, none⟩ = some (.int .u64 a1_1) := (blk_cell BK278.out 1).trans rfl; have hcz47_2 : w45.cell? ⟨gb278, 2, none⟩ = some (.int .u64 a1_2) := (blk_cell BK278.out 2).trans rfl; have hfz47_0 := blk_frozen BK278.out 0; have hfz47_1 := blk_frozen BK278.out 1; have hfz47_2 := blk_frozen BK278.out 2))
                            repeat (go_quiet (fail); try go_wp2_with (first | (go_at_call 16; (with_reducible refine (points_Ahead.calls a1_0 a1_1 a1_2 ((rd_T25 t282 x52_1).f0) ((rd_T25 t282 x52_1).f1) ((rd_T25 t282 x52_1).f2) false _ A23.out).mono ?_); rintro e w45 ⟨rfl, hb⟩; have n0_ := Aside0.mk (Kd.V_below (by (with_reducible repeat (first | apply Kd.V_alloc | apply Kd.V_drewN | apply Kd.V_drew)); exact (Kd.V_mono (Kd.V_far (p := ⟨gb290, 2, none⟩) (Kd.V_far (p := ⟨gb290, 1, none⟩) (Kd.V_far (p := ⟨gb290, 0, none⟩) (Kd.V_mono HO_5.out (fun k_ hk => (⟨hk, hk.2⟩ : _ ∧ k_ ≠ gb290))) (fun _ hk => hk.2) (.int .i64 ((rd_T25 t282 x52_1).f0))) (fun _ hk => hk.2) (.int .u64 ((rd_T25 t282 x52_1).f1))) (fun _ hk => hk.2) (.int .u64 ((rd_T25 t282 x52_1).f2))) (fun _ h_ => h_.1))) hb); have n1_ := Aside0.mk (Kd.V_below (by (with_reducible repeat (first | apply Kd.V_alloc | apply Kd.V_drewN | apply Kd.V_drew)); exact (Kd.V_mono (Kd.V_far (p := ⟨gb290, 2, none⟩) (Kd.V_far (p := ⟨gb290, 1, none⟩) (Kd.V_far (p := ⟨gb290, 0, none⟩) (Kd.V_mono HO_50.out (fun k_ hk => (⟨hk, hk.2⟩ : _ ∧ k_ ≠ gb290))) (fun _ hk => hk.2) (.int .i64 ((rd_T25 t282 x52_1).f0))) (fun _ hk => hk.2) (.int .u64 ((rd_T25 t282 x52_1).f1))) (fun _ hk => hk.2) (.int .u64 ((rd_T25 t282 x52_1).f2))) (fun _ h_ => h_.1))) hb); have n2_ := Aside0.mk (blk_below (g := gb278) (o := .cells #[.int .i64 a1_0, .int .u64 a1_1, .int .u64 a1_2] 25 (0, 0)) (by (with_reducible repeat (first | refine blk_drewN ?_ _ | refine blk_drew ?_ | refine blk_alloc ?_ _)); refine blk_far ?_ NB278_290.out _; (with_reducible repeat (first | refine blk_drewN ?_ _ | refine blk_drew ?_ | refine blk_alloc ?_ _)); refine blk_far ?_ NB278_290.out _; (with_reducible repeat (first | refine blk_drewN ?_ _ | refine blk_drew ?_ | refine blk_alloc ?_ _)); refine blk_far ?_ NB278_290.out _; (with_reducible repeat (first | refine blk_drewN ?_ _ | refine blk_drew ?_ | refine blk_alloc ?_ _)); exact BK278.out) hb); have n3_ := Aside0.mk (blk_below (g := gb290) (o := .cells #[.int .i64 ((rd_T25 t282 x52_1).f0), .int .u64 ((rd_T25 t282 x52_1).f1), .int .u64 ((rd_T25 t282 x52_1).f2)] 25 (0, 0)) (by (with_reducible repeat (first | refine blk_drewN ?_ _ | refine blk_drew ?_ | refine blk_alloc ?_ _)); refine blk_put (cs := #[.int .i64 ((rd_T25 t282 x52_1).f0), .int .u64 ((rd_T25 t282 x52_1).f1), .int .u64 0]) ?_ 2 _ rfl; (with_reducible repeat (first | refine blk_drewN ?_ _ | refine blk_drew ?_ | refine blk_alloc ?_ _)); refine blk_put (cs := #[.int .i64 ((rd_T25 t282 x52_1).f0), .int .u64 0, .int .u64 0]) ?_ 1 _ rfl; (with_reducible repeat (first | refine blk_drewN ?_ _ | refine blk_drew ?_ | refine blk_alloc ?_ _)); refine blk_put (cs := #[.int .i64 0, .int .u64 0, .int .u64 0]) ?_ 0 _ rfl; (with_reducible repeat (first | refine blk_drewN ?_ _ | refine blk_drew ?_ | refine blk_alloc ?_ _)); exact BK290.out) hb); have n4_ := Aside0.mk (below_step (by repeat (first | (with_reducible first | exact HB.out | apply below_alloc | apply pw_below_drewN | apply below_drew1 | refine below_set ?_ GE278.out | refine below_set ?_ GE290.out) | exact HB.out)) hb); clear HO_5; clear HO_50; clear BK278; clear BK290; clear HB; have HO_5 := n0_; have HO_50 := n1_; have BK278 := n2_; have BK290 := n3_; have HB := n4_; clear n0_ n1_ n2_ n3_ n4_; (try clear hb); (try clear hb2); (try clear hk); (try clear hi); have hcz46_0 : w45.cell? ⟨gb290, 0, none⟩ = some (.int .i64 ((rd_T25 t282 x52_1).f0)) := (blk_cell BK290.out 0).trans rfl; have hcz46_1 : w45.cell? ⟨gb290, 1, none⟩ = some (.int .u64 ((rd_T25 t282 x52_1).f1)) := (blk_cell BK290.out 1).trans rfl; have hcz46_2 : w45.cell? ⟨gb290, 2, none⟩ = some (.int .u64 ((rd_T25 t282 x52_1).f2)) := (blk_cell BK290.out 2).trans rfl; have hfz46_0 := blk_frozen BK290.out 0; have hfz46_1 := blk_frozen BK290.out 1; have hfz46_2 := blk_frozen BK290.out 2; have hcz47_0 : w45.cell? ⟨gb278, 0, none⟩ = some (.int .i64 a1_0) := (blk_cell BK278.out 0).trans rfl; have hcz47_1 : w45.cell? ⟨gb278, 1, none⟩ = some (.int .u64 a1_1) := (blk_cell BK278.out 1).trans rfl; have hcz47_2 : w45.cell? ⟨gb278, 2, none⟩ = some (.int .u64 a1_2) := (blk_cell BK278.out 2).trans rfl; have hfz47_0 := blk_frozen BK278.out 0; have hfz47_1 := blk_frozen BK278.out 1; have hfz47_2 := blk_frozen BK278.out 2)))
                            go_meet
                            case rel => exact ⟨_, (false), (by first | rfl | (simp; done) | (simp [*]; done)), H', ⟨by have := HK1.out; first | omega | exact Nat.le_refl _⟩, ⟨by (with_reducible repeat (first | apply Kd.V_alloc | apply Kd.V_drewN | apply Kd.V_drew)); exact HO_5.out⟩, ⟨by (with_reducible repeat (first | apply Kd.V_alloc | apply Kd.V_drewN | apply Kd.V_drew)); exact HO_50.out⟩, ⟨by (with_reducible repeat (first | refine blk_drewN ?_ _ | refine blk_drew ?_ | refine blk_alloc ?_ _)); exact BK278.out⟩, ⟨by (with_reducible repeat (first | refine blk_drewN ?_ _ | refine blk_drew ?_ | refine blk_alloc ?_ _)); exact BK290.out⟩, ⟨by repeat (first | (with_reducible first | exact HB.out | apply below_alloc | apply pw_below_drewN | apply below_drew1 | refine below_set ?_ GE278.out | refine below_set ?_ GE290.out) | exact HB.out)⟩⟩
                      · rw [if_neg c26] at H
                        have c26b0 : (((rd_T25 t282 x52_1).f2) == a1_2) = false := beq_eq_false_iff_ne.mpr c26
                        have c26b1 : (((rd_T25 t282 x52_1).f2) != a1_2) = true := bne_iff_ne.mpr c26
                        by_cases c48 : t285 = 1
                        · rw [if_pos c48] at H
                          have c48b0 : (t285 == 1) = true := beq_iff_eq.mpr c48
                          have c48b1 : (t285 != 1) = false := bne_eq_false_iff_eq.mpr c48
                          have EQc48 := Aside0.mk c48
                          clear c48
                          have h_ := HT_r.out
                          subst h_
                          exact absurd H (by cases k1 <;> simp [manometerlaw09_PointsStays.j1])
                        · rw [if_neg c48] at H
                          have c48b0 : (t285 == 1) = false := beq_eq_false_iff_ne.mpr c48
                          have c48b1 : (t285 != 1) = true := bne_iff_ne.mpr c48
                          by_cases c49 : t285 = 3
                          · rw [if_pos c49] at H
                            have c49b0 : (t285 == 3) = true := beq_iff_eq.mpr c49
                            have c49b1 : (t285 != 3) = false := bne_eq_false_iff_eq.mpr c49
                            have EQc49 := Aside0.mk c49
                            clear c49
                            have h_ := HT_r.out
                            subst h_
                            exact absurd H (by cases k1 <;> simp [manometerlaw09_PointsStays.j1])
                          · rw [if_neg c49] at H
                            have c49b0 : (t285 == 3) = false := beq_eq_false_iff_ne.mpr c49
                            have c49b1 : (t285 != 3) = true := bne_iff_ne.mpr c49
                            by_cases c50 : t285 = 2
                            · rw [if_pos c50] at H
                              have c50b0 : (t285 == 2) = true := beq_iff_eq.mpr c50
                              have c50b1 : (t285 != 2) = false := bne_eq_false_iff_eq.mpr c50
                              have EQc50 := Aside0.mk c50
                              clear c50
                              have c51b0 : (t285 == 4) = false := by rw [show t285 = 2 from by simpa using (show (t285 == 2) = true from by assumption)]; decide
                              have c51b1 : (t285 != 4) = true := by rw [show t285 = 2 from by simpa using (show (t285 == 2) = true from by assumption)]; decide
                              have H' := Aside0.mk H
                              clear H
                              have hnb52 := NB278_290.out
                              have hnc52 := NB290_278.out
                              have hcz53_0 : w19.cell? ⟨gb278, 0, none⟩ = some (.int .i64 a1_0) := (blk_cell BK278.out 0).trans rfl
                              have hcz53_1 : w19.cell? ⟨gb278, 1, none⟩ = some (.int .u64 a1_1) := (blk_cell BK278.out 1).trans rfl
                              have hcz53_2 : w19.cell? ⟨gb278, 2, none⟩ = some (.int .u64 a1_2) := (blk_cell BK278.out 2).trans rfl
                              have hfz53_0 := blk_frozen BK278.out 0
                              have hfz53_1 := blk_frozen BK278.out 1
                              have hfz53_2 := blk_frozen BK278.out 2
                              have hcz54_0 : w19.cell? ⟨gb290, 0, none⟩ = some (.int .i64 0) := (blk_cell BK290.out 0).trans rfl
                              have hcz54_1 : w19.cell? ⟨gb290, 1, none⟩ = some (.int .u64 0) := (blk_cell BK290.out 1).trans rfl
                              have hcz54_2 : w19.cell? ⟨gb290, 2, none⟩ = some (.int .u64 0) := (blk_cell BK290.out 2).trans rfl
                              have hfz54_0 := blk_frozen BK290.out 0
                              have hfz54_1 := blk_frozen BK290.out 1
                              have hfz54_2 := blk_frozen BK290.out 2
                              go_wp2_with (first | (go_at_call 16; (with_reducible refine (points_Ahead.calls a1_0 a1_1 a1_2 ((rd_T25 t282 x52_1).f0) ((rd_T25 t282 x52_1).f1) ((rd_T25 t282 x52_1).f2) false _ A23.out).mono ?_); rintro e w55 ⟨rfl, hb⟩; have n0_ := Aside0.mk (Kd.V_below (by (with_reducible repeat (first | apply Kd.V_alloc | apply Kd.V_drewN | apply Kd.V_drew)); exact (Kd.V_mono (Kd.V_far (p := ⟨gb290, 2, none⟩) (Kd.V_far (p := ⟨gb290, 1, none⟩) (Kd.V_far (p := ⟨gb290, 0, none⟩) (Kd.V_mono HO_5.out (fun k_ hk => (⟨hk, hk.2⟩ : _ ∧ k_ ≠ gb290))) (fun _ hk => hk.2) (.int .i64 ((rd_T25 t282 x52_1).f0))) (fun _ hk => hk.2) (.int .u64 ((rd_T25 t282 x52_1).f1))) (fun _ hk => hk.2) (.int .u64 ((rd_T25 t282 x52_1).f2))) (fun _ h_ => h_.1))) hb); have n1_ := Aside0.mk (Kd.V_below (by (with_reducible repeat (first | apply Kd.V_alloc | apply Kd.V_drewN | apply Kd.V_drew)); exact (Kd.V_mono (Kd.V_far (p := ⟨gb290, 2, none⟩) (Kd.V_far (p := ⟨gb290, 1, none⟩) (Kd.V_far (p := ⟨gb290, 0, none⟩) (Kd.V_mono HO_50.out (fun k_ hk => (⟨hk, hk.2⟩ : _ ∧ k_ ≠ gb290))) (fun _ hk => hk.2) (.int .i64 ((rd_T25 t282 x52_1).f0))) (fun _ hk => hk.2) (.int .u64 ((rd_T25 t282 x52_1).f1))) (fun _ hk => hk.2) (.int .u64 ((rd_T25 t282 x52_1).f2))) (fun _ h_ => h_.1))) hb); have n2_ := Aside0.mk (blk_below (g := gb278) (o := .cells #[.int .i64 a1_0, .int .u64 a1_1, .int .u64 a1_2] 25 (0, 0)) (by (with_reducible repeat (first | refine blk_drewN ?_ _ | refine blk_drew ?_ | refine blk_alloc ?_ _)); refine blk_far ?_ NB278_290.out _; (with_reducible repeat (first | refine blk_drewN ?_ _ | refine blk_drew ?_ | refine blk_alloc ?_ _)); refine blk_far ?_ NB278_290.out _; (with_reducible repeat (first | refine blk_drewN ?_ _ | refine blk_drew ?_ | refine blk_alloc ?_ _)); refine blk_far ?_ NB278_290.out _; (with_reducible repeat (first | refine blk_drewN ?_ _ | refine blk_drew ?_ | refine blk_alloc ?_ _)); exact BK278.out) hb); have n3_ := Aside0.mk (blk_below (g := gb290) (o := .cells #[.int .i64 ((rd_T25 t282 x52_1).f0), .int .u64 ((rd_T25 t282 x52_1).f1), .int .u64 ((rd_T25 t282 x52_1).f2)] 25 (0, 0)) (by (with_reducible repeat (first | refine blk_drewN ?_ _ | refine blk_drew ?_ | refine blk_alloc ?_ _)); refine blk_put (cs := #[.int .i64 ((rd_T25 t282 x52_1).f0), .int .u64 ((rd_T25 t282 x52_1).f1), .int .u64 0]) ?_ 2 _ rfl; (with_reducible repeat (first | refine blk_drewN ?_ _ | refine blk_drew ?_ | refine blk_alloc ?_ _)); refine blk_put (cs := #[.int .i64 ((rd_T25 t282 x52_1).f0), .int .u64 0, .int .u64 0]) ?_ 1 _ rfl; (with_reducible repeat (first | refine blk_drewN ?_ _ | refine blk_drew ?_ | refine blk_alloc ?_ _)); refine blk_put (cs := #[.int .i64 0, .int .u64 0, .int .u64 0]) ?_ 0 _ rfl; (with_reducible repeat (first | refine blk_drewN ?_ _ | refine blk_drew ?_ | refine blk_alloc ?_ _)); exact BK290.out) hb); have n4_ := Aside0.mk (below_step (by repeat (first | (with_reducible first | exact HB.out | apply below_alloc | apply pw_below_drewN | apply below_drew1 | refine below_set ?_ GE278.out | refine below_set ?_ GE290.out) | exact HB.out)) hb); clear HO_5; clear HO_50; clear BK278; clear BK290; clear HB; have HO_5 := n0_; have HO_50 := n1_; have BK278 := n2_; have BK290 := n3_; have HB := n4_; clear n0_ n1_ n2_ n3_ n4_; (try clear hb); (try clear hb2); (try clear hk); (try clear hi); have hcz56_0 : w55.cell? ⟨gb290, 0, none⟩ = some (.int .i64 ((rd_T25 t282 x52_1).f0)) := (blk_cell BK290.out 0).trans rfl; have hcz56_1 : w55.cell? ⟨gb290, 1, none⟩ = some (.int .u64 ((rd_T25 t282 x52_1).f1)) := (blk_cell BK290.out 1).trans rfl; have hcz56_2 : w55.cell? ⟨gb290, 2, none⟩ = some (.int .u64 ((rd_T25 t282 x52_1).f2)) := (blk_cell BK290.out 2).trans rfl; have hfz56_0 := blk_frozen BK290.out 0; have hfz56_1 := blk_frozen BK290.out 1; have hfz56_2 := blk_frozen BK290.out 2; have hcz57_0 : w55.cell? ⟨gb278, 0, none⟩ = some (.int .i64 a1_0) := (blk_cell BK278.out 0).trans rfl; have hcz57_1 : w55.cell? ⟨gb278, 1, none⟩ = some (.int .u64 a1_1) := (blk_cell BK278.out 1).trans rfl; have hcz57_2 : w55.cell? ⟨gb278, 2, none⟩ = some (.int .u64 a1_2) := (blk_cell BK278.out 2).trans rfl; have hfz57_0 := blk_frozen BK278.out 0; have hfz57_1 := blk_frozen BK278.out 1; have hfz57_2 := blk_frozen BK278.out 2))
                              repeat (go_quiet (fail); try go_wp2_with (first | (go_at_call 16; (with_reducible refine (points_Ahead.calls a1_0 a1_1 a1_2 ((rd_T25 t282 x52_1).f0) ((rd_T25 t282 x52_1).f1) ((rd_T25 t282 x52_1).f2) false _ A23.out).mono ?_); rintro e w55 ⟨rfl, hb⟩; have n0_ := Aside0.mk (Kd.V_below (by (with_reducible repeat (first | apply Kd.V_alloc | apply Kd.V_drewN | apply Kd.V_drew)); exact (Kd.V_mono (Kd.V_far (p := ⟨gb290, 2, none⟩) (Kd.V_far (p := ⟨gb290, 1, none⟩) (Kd.V_far (p := ⟨gb290, 0, none⟩) (Kd.V_mono HO_5.out (fun k_ hk => (⟨hk, hk.2⟩ : _ ∧ k_ ≠ gb290))) (fun _ hk => hk.2) (.int .i64 ((rd_T25 t282 x52_1).f0))) (fun _ hk => hk.2) (.int .u64 ((rd_T25 t282 x52_1).f1))) (fun _ hk => hk.2) (.int .u64 ((rd_T25 t282 x52_1).f2))) (fun _ h_ => h_.1))) hb); have n1_ := Aside0.mk (Kd.V_below (by (with_reducible repeat (first | apply Kd.V_alloc | apply Kd.V_drewN | apply Kd.V_drew)); exact (Kd.V_mono (Kd.V_far (p := ⟨gb290, 2, none⟩) (Kd.V_far (p := ⟨gb290, 1, none⟩) (Kd.V_far (p := ⟨gb290, 0, none⟩) (Kd.V_mono HO_50.out (fun k_ hk => (⟨hk, hk.2⟩ : _ ∧ k_ ≠ gb290))) (fun _ hk => hk.2) (.int .i64 ((rd_T25 t282 x52_1).f0))) (fun _ hk => hk.2) (.int .u64 ((rd_T25 t282 x52_1).f1))) (fun _ hk => hk.2) (.int .u64 ((rd_T25 t282 x52_1).f2))) (fun _ h_ => h_.1))) hb); have n2_ := Aside0.mk (blk_below (g := gb278) (o := .cells #[.int .i64 a1_0, .int .u64 a1_1, .int .u64 a1_2] 25 (0, 0)) (by (with_reducible repeat (first | refine blk_drewN ?_ _ | refine blk_drew ?_ | refine blk_alloc ?_ _)); refine blk_far ?_ NB278_290.out _; (with_reducible repeat (first | refine blk_drewN ?_ _ | refine blk_drew ?_ | refine blk_alloc ?_ _)); refine blk_far ?_ NB278_290.out _; (with_reducible repeat (first | refine blk_drewN ?_ _ | refine blk_drew ?_ | refine blk_alloc ?_ _)); refine blk_far ?_ NB278_290.out _; (with_reducible repeat (first | refine blk_drewN ?_ _ | refine blk_drew ?_ | refine blk_alloc ?_ _)); exact BK278.out) hb); have n3_ := Aside0.mk (blk_below (g := gb290) (o := .cells #[.int .i64 ((rd_T25 t282 x52_1).f0), .int .u64 ((rd_T25 t282 x52_1).f1), .int .u64 ((rd_T25 t282 x52_1).f2)] 25 (0, 0)) (by (with_reducible repeat (first | refine blk_drewN ?_ _ | refine blk_drew ?_ | refine blk_alloc ?_ _)); refine blk_put (cs := #[.int .i64 ((rd_T25 t282 x52_1).f0), .int .u64 ((rd_T25 t282 x52_1).f1), .int .u64 0]) ?_ 2 _ rfl; (with_reducible repeat (first | refine blk_drewN ?_ _ | refine blk_drew ?_ | refine blk_alloc ?_ _)); refine blk_put (cs := #[.int .i64 ((rd_T25 t282 x52_1).f0), .int .u64 0, .int .u64 0]) ?_ 1 _ rfl; (with_reducible repeat (first | refine blk_drewN ?_ _ | refine blk_drew ?_ | refine blk_alloc ?_ _)); refine blk_put (cs := #[.int .i64 0, .int .u64 0, .int .u64 0]) ?_ 0 _ rfl; (with_reducible repeat (first | refine blk_drewN ?_ _ | refine blk_drew ?_ | refine blk_alloc ?_ _)); exact BK290.out) hb); have n4_ := Aside0.mk (below_step (by repeat (first | (with_reducible first | exact HB.out | apply below_alloc | apply pw_below_drewN | apply below_drew1 | refine below_set ?_ GE278.out | refine below_set ?_ GE290.out) | exact HB.out)) hb); clear HO_5; clear HO_50; clear BK278; clear BK290; clear HB; have HO_5 := n0_; have HO_50 := n1_; have BK278 := n2_; have BK290 := n3_; have HB := n4_; clear n0_ n1_ n2_ n3_ n4_; (try clear hb); (try clear hb2); (try clear hk); (try clear hi); have hcz56_0 : w55.cell? ⟨gb290, 0, none⟩ = some (.int .i64 ((rd_T25 t282 x52_1).f0)) := (blk_cell BK290.out 0).trans rfl; have hcz56_1 : w55.cell? ⟨gb290, 1, none⟩ = some (.int .u64 ((rd_T25 t282 x52_1).f1)) := (blk_cell BK290.out 1).trans rfl; have hcz56_2 : w55.cell? ⟨gb290, 2, none⟩ = some (.int .u64 ((rd_T25 t282 x52_1).f2)) := (blk_cell BK290.out 2).trans rfl; have hfz56_0 := blk_frozen BK290.out 0; have hfz56_1 := blk_frozen BK290.out 1; have hfz56_2 := blk_frozen BK290.out 2; have hcz57_0 : w55.cell? ⟨gb278, 0, none⟩ = some (.int .i64 a1_0) := (blk_cell BK278.out 0).trans rfl; have hcz57_1 : w55.cell? ⟨gb278, 1, none⟩ = some (.int .u64 a1_1) := (blk_cell BK278.out 1).trans rfl; have hcz57_2 : w55.cell? ⟨gb278, 2, none⟩ = some (.int .u64 a1_2) := (blk_cell BK278.out 2).trans rfl; have hfz57_0 := blk_frozen BK278.out 0; have hfz57_1 := blk_frozen BK278.out 1; have hfz57_2 := blk_frozen BK278.out 2)))
                              obtain rfl := EQc50.out
                              go_meet
                              case rel => exact ⟨_, (false), (by first | rfl | (simp; done) | (simp [*]; done)), H', ⟨by have := HK1.out; first | omega | exact Nat.le_refl _⟩, ⟨by (with_reducible repeat (first | apply Kd.V_alloc | apply Kd.V_drewN | apply Kd.V_drew)); exact HO_5.out⟩, ⟨by (with_reducible repeat (first | apply Kd.V_alloc | apply Kd.V_drewN | apply Kd.V_drew)); exact HO_50.out⟩, ⟨by (with_reducible repeat (first | refine blk_drewN ?_ _ | refine blk_drew ?_ | refine blk_alloc ?_ _)); exact BK278.out⟩, ⟨by (with_reducible repeat (first | refine blk_drewN ?_ _ | refine blk_drew ?_ | refine blk_alloc ?_ _)); exact BK290.out⟩, ⟨by repeat (first | (with_reducible first | exact HB.out | apply below_alloc | apply pw_below_drewN | apply below_drew1 | refine below_set ?_ GE278.out | refine below_set ?_ GE290.out) | exact HB.out)⟩⟩
                            · rw [if_neg c50] at H
                              have c50b0 : (t285 == 2) = false := beq_eq_false_iff_ne.mpr c50
                              have c50b1 : (t285 != 2) = true := bne_iff_ne.mpr c50
                              by_cases c58 : t285 = 4
                              · rw [if_pos c58] at H
                                have c58b0 : (t285 == 4) = true := beq_iff_eq.mpr c58
                                have c58b1 : (t285 != 4) = false := bne_eq_false_iff_eq.mpr c58
                                have EQc58 := Aside0.mk c58
                                clear c58
                                have H' := Aside0.mk H
                                clear H
                                have hnb59 := NB278_290.out
                                have hnc59 := NB290_278.out
                                have hcz60_0 : w19.cell? ⟨gb278, 0, none⟩ = some (.int .i64 a1_0) := (blk_cell BK278.out 0).trans rfl
                                have hcz60_1 : w19.cell? ⟨gb278, 1, none⟩ = some (.int .u64 a1_1) := (blk_cell BK278.out 1).trans rfl
                                have hcz60_2 : w19.cell? ⟨gb278, 2, none⟩ = some (.int .u64 a1_2) := (blk_cell BK278.out 2).trans rfl
                                have hfz60_0 := blk_frozen BK278.out 0
                                have hfz60_1 := blk_frozen BK278.out 1
                                have hfz60_2 := blk_frozen BK278.out 2
                                have hcz61_0 : w19.cell? ⟨gb290, 0, none⟩ = some (.int .i64 0) := (blk_cell BK290.out 0).trans rfl
                                have hcz61_1 : w19.cell? ⟨gb290, 1, none⟩ = some (.int .u64 0) := (blk_cell BK290.out 1).trans rfl
                                have hcz61_2 : w19.cell? ⟨gb290, 2, none⟩ = some (.int .u64 0) := (blk_cell BK290.out 2).trans rfl
                                have hfz61_0 := blk_frozen BK290.out 0
                                have hfz61_1 := blk_frozen BK290.out 1
                                have hfz61_2 := blk_frozen BK290.out 2
                                go_wp2_with (first | (go_at_call 16; (with_reducible refine (points_Ahead.calls a1_0 a1_1 a1_2 ((rd_T25 t282 x52_1).f0) ((rd_T25 t282 x52_1).f1) ((rd_T25 t282 x52_1).f2) false _ A23.out).mono ?_); rintro e w62 ⟨rfl, hb⟩; have n0_ := Aside0.mk (Kd.V_below (by (with_reducible repeat (first | apply Kd.V_alloc | apply Kd.V_drewN | apply Kd.V_drew)); exact (Kd.V_mono (Kd.V_far (p := ⟨gb290, 2, none⟩) (Kd.V_far (p := ⟨gb290, 1, none⟩) (Kd.V_far (p := ⟨gb290, 0, none⟩) (Kd.V_mono HO_5.out (fun k_ hk => (⟨hk, hk.2⟩ : _ ∧ k_ ≠ gb290))) (fun _ hk => hk.2) (.int .i64 ((rd_T25 t282 x52_1).f0))) (fun _ hk => hk.2) (.int .u64 ((rd_T25 t282 x52_1).f1))) (fun _ hk => hk.2) (.int .u64 ((rd_T25 t282 x52_1).f2))) (fun _ h_ => h_.1))) hb); have n1_ := Aside0.mk (Kd.V_below (by (with_reducible repeat (first | apply Kd.V_alloc | apply Kd.V_drewN | apply Kd.V_drew)); exact (Kd.V_mono (Kd.V_far (p := ⟨gb290, 2, none⟩) (Kd.V_far (p := ⟨gb290, 1, none⟩) (Kd.V_far (p := ⟨gb290, 0, none⟩) (Kd.V_mono HO_50.out (fun k_ hk => (⟨hk, hk.2⟩ : _ ∧ k_ ≠ gb290))) (fun _ hk => hk.2) (.int .i64 ((rd_T25 t282 x52_1).f0))) (fun _ hk => hk.2) (.int .u64 ((rd_T25 t282 x52_1).f1))) (fun _ hk => hk.2) (.int .u64 ((rd_T25 t282 x52_1).f2))) (fun _ h_ => h_.1))) hb); have n2_ := Aside0.mk (blk_below (g := gb278) (o := .cells #[.int .i64 a1_0, .int .u64 a1_1, .int .u64 a1_2] 25 (0, 0)) (by (with_reducible repeat (first | refine blk_drewN ?_ _ | refine blk_drew ?_ | refine blk_alloc ?_ _)); refine blk_far ?_ NB278_290.out _; (with_reducible repeat (first | refine blk_drewN ?_ _ | refine blk_drew ?_ | refine blk_alloc ?_ _)); refine blk_far ?_ NB278_290.out _; (with_reducible repeat (first | refine blk_drewN ?_ _ | refine blk_drew ?_ | refine blk_alloc ?_ _)); refine blk_far ?_ NB278_290.out _; (with_reducible repeat (first | refine blk_drewN ?_ _ | refine blk_drew ?_ | refine blk_alloc ?_ _)); exact BK278.out) hb); have n3_ := Aside0.mk (blk_below (g := gb290) (o := .cells #[.int .i64 ((rd_T25 t282 x52_1).f0), .int .u64 ((rd_T25 t282 x52_1).f1), .int .u64 ((rd_T25 t282 x52_1).f2)] 25 (0, 0)) (by (with_reducible repeat (first | refine blk_drewN ?_ _ | refine blk_drew ?_ | refine blk_alloc ?_ _)); refine blk_put (cs := #[.int .i64 ((rd_T25 t282 x52_1).f0), .int .u64 ((rd_T25 t282 x52_1).f1), .int .u64 0]) ?_ 2 _ rfl; (with_reducible repeat (first | refine blk_drewN ?_ _ | refine blk_drew ?_ | refine blk_alloc ?_ _)); refine blk_put (cs := #[.int .i64 ((rd_T25 t282 x52_1).f0), .int .u64 0, .int .u64 0]) ?_ 1 _ rfl; (with_reducible repeat (first | refine blk_drewN ?_ _ | refine blk_drew ?_ | refine blk_alloc ?_ _)); refine blk_put (cs := #[.int .i64 0, .int .u64 0, .int .u64 0]) ?_ 0 _ rfl; (with_reducible repeat (first | refine blk_drewN ?_ _ | refine blk_drew ?_ | refine blk_alloc ?_ _)); exact BK290.out) hb); have n4_ := Aside0.mk (below_step (by repeat (first | (with_reducible first | exact HB.out | apply below_alloc | apply pw_below_drewN | apply below_drew1 | refine below_set ?_ GE278.out | refine below_set ?_ GE290.out) | exact HB.out)) hb); clear HO_5; clear HO_50; clear BK278; clear BK290; clear HB; have HO_5 := n0_; have HO_50 := n1_; have BK278 := n2_; have BK290 := n3_; have HB := n4_; clear n0_ n1_ n2_ n3_ n4_; (try clear hb); (try clear hb2); (try clear hk); (try clear hi); have hcz63_0 : w62.cell? ⟨gb290, 0, none⟩ = some (.int .i64 ((rd_T25 t282 x52_1).f0)) := (blk_cell BK290.out 0).trans rfl; have hcz63_1 : w62.cell? ⟨gb290, 1, none⟩ = some (.int .u64 ((rd_T25 t282 x52_1).f1)) := (blk_cell BK290.out 1).trans rfl; have hcz63_2 : w62.cell? ⟨gb290, 2, none⟩ = some (.int .u64 ((rd_T25 t282 x52_1).f2)) := (blk_cell BK290.out 2).trans rfl; have hfz63_0 := blk_frozen BK290.out 0; have hfz63_1 := blk_frozen BK290.out 1; have hfz63_2 := blk_frozen BK290.out 2; have hcz64_0 : w62.cell? ⟨gb278, 0, none⟩ = some (.int .i64 a1_0) := (blk_cell BK278.out 0).trans rfl; have hcz64_1 : w62.cell? ⟨gb278, 1, none⟩ = some (.int .u64 a1_1) := (blk_cell BK278.out 1).trans rfl; have hcz64_2 : w62.cell? ⟨gb278, 2, none⟩ = some (.int .u64 a1_2) := (blk_cell BK278.out 2).trans rfl; have hfz64_0 := blk_frozen BK278.out 0; have hfz64_1 := blk_frozen BK278.out 1; have hfz64_2 := blk_frozen BK278.out 2))
                                repeat (go_quiet (fail); try go_wp2_with (first | (go_at_call 16; (with_reducible refine (points_Ahead.calls a1_0 a1_1 a1_2 ((rd_T25 t282 x52_1).f0) ((rd_T25 t282 x52_1).f1) ((rd_T25 t282 x52_1).f2) false _ A23.out).mono ?_); rintro e w62 ⟨rfl, hb⟩; have n0_ := Aside0.mk (Kd.V_below (by (with_reducible repeat (first | apply Kd.V_alloc | apply Kd.V_drewN | apply Kd.V_drew)); exact (Kd.V_mono (Kd.V_far (p := ⟨gb290, 2, none⟩) (Kd.V_far (p := ⟨gb290, 1, none⟩) (Kd.V_far (p := ⟨gb290, 0, none⟩) (Kd.V_mono HO_5.out (fun k_ hk => (⟨hk, hk.2⟩ : _ ∧ k_ ≠ gb290))) (fun _ hk => hk.2) (.int .i64 ((rd_T25 t282 x52_1).f0))) (fun _ hk => hk.2) (.int .u64 ((rd_T25 t282 x52_1).f1))) (fun _ hk => hk.2) (.int .u64 ((rd_T25 t282 x52_1).f2))) (fun _ h_ => h_.1))) hb); have n1_ := Aside0.mk (Kd.V_below (by (with_reducible repeat (first | apply Kd.V_alloc | apply Kd.V_drewN | apply Kd.V_drew)); exact (Kd.V_mono (Kd.V_far (p := ⟨gb290, 2, none⟩) (Kd.V_far (p := ⟨gb290, 1, none⟩) (Kd.V_far (p := ⟨gb290, 0, none⟩) (Kd.V_mono HO_50.out (fun k_ hk => (⟨hk, hk.2⟩ : _ ∧ k_ ≠ gb290))) (fun _ hk => hk.2) (.int .i64 ((rd_T25 t282 x52_1).f0))) (fun _ hk => hk.2) (.int .u64 ((rd_T25 t282 x52_1).f1))) (fun _ hk => hk.2) (.int .u64 ((rd_T25 t282 x52_1).f2))) (fun _ h_ => h_.1))) hb); have n2_ := Aside0.mk (blk_below (g := gb278) (o := .cells #[.int .i64 a1_0, .int .u64 a1_1, .int .u64 a1_2] 25 (0, 0)) (by (with_reducible repeat (first | refine blk_drewN ?_ _ | refine blk_drew ?_ | refine blk_alloc ?_ _)); refine blk_far ?_ NB278_290.out _; (with_reducible repeat (first | refine blk_drewN ?_ _ | refine blk_drew ?_ | refine blk_alloc ?_ _)); refine blk_far ?_ NB278_290.out _; (with_reducible repeat (first | refine blk_drewN ?_ _ | refine blk_drew ?_ | refine blk_alloc ?_ _)); refine blk_far ?_ NB278_290.out _; (with_reducible repeat (first | refine blk_drewN ?_ _ | refine blk_drew ?_ | refine blk_alloc ?_ _)); exact BK278.out) hb); have n3_ := Aside0.mk (blk_below (g := gb290) (o := .cells #[.int .i64 ((rd_T25 t282 x52_1).f0), .int .u64 ((rd_T25 t282 x52_1).f1), .int .u64 ((rd_T25 t282 x52_1).f2)] 25 (0, 0)) (by (with_reducible repeat (first | refine blk_drewN ?_ _ | refine blk_drew ?_ | refine blk_alloc ?_ _)); refine blk_put (cs := #[.int .i64 ((rd_T25 t282 x52_1).f0), .int .u64 ((rd_T25 t282 x52_1).f1), .int .u64 0]) ?_ 2 _ rfl; (with_reducible repeat (first | refine blk_drewN ?_ _ | refine blk_drew ?_ | refine blk_alloc ?_ _)); refine blk_put (cs := #[.int .i64 ((rd_T25 t282 x52_1).f0), .int .u64 0, .int .u64 0]) ?_ 1 _ rfl; (with_reducible repeat (first | refine blk_drewN ?_ _ | refine blk_drew ?_ | refine blk_alloc ?_ _)); refine blk_put (cs := #[.int .i64 0, .int .u64 0, .int .u64 0]) ?_ 0 _ rfl; (with_reducible repeat (first | refine blk_drewN ?_ _ | refine blk_drew ?_ | refine blk_alloc ?_ _)); exact BK290.out) hb); have n4_ := Aside0.mk (below_step (by repeat (first | (with_reducible first | exact HB.out | apply below_alloc | apply pw_below_drewN | apply below_drew1 | refine below_set ?_ GE278.out | refine below_set ?_ GE290.out) | exact HB.out)) hb); clear HO_5; clear HO_50; clear BK278; clear BK290; clear HB; have HO_5 := n0_; have HO_50 := n1_; have BK278 := n2_; have BK290 := n3_; have HB := n4_; clear n0_ n1_ n2_ n3_ n4_; (try clear hb); (try clear hb2); (try clear hk); (try clear hi); have hcz63_0 : w62.cell? ⟨gb290, 0, none⟩ = some (.int .i64 ((rd_T25 t282 x52_1).f0)) := (blk_cell BK290.out 0).trans rfl; have hcz63_1 : w62.cell? ⟨gb290, 1, none⟩ = some (.int .u64 ((rd_T25 t282 x52_1).f1)) := (blk_cell BK290.out 1).trans rfl; have hcz63_2 : w62.cell? ⟨gb290, 2, none⟩ = some (.int .u64 ((rd_T25 t282 x52_1).f2)) := (blk_cell BK290.out 2).trans rfl; have hfz63_0 := blk_frozen BK290.out 0; have hfz63_1 := blk_frozen BK290.out 1; have hfz63_2 := blk_frozen BK290.out 2; have hcz64_0 : w62.cell? ⟨gb278, 0, none⟩ = some (.int .i64 a1_0) := (blk_cell BK278.out 0).trans rfl; have hcz64_1 : w62.cell? ⟨gb278, 1, none⟩ = some (.int .u64 a1_1) := (blk_cell BK278.out 1).trans rfl; have hcz64_2 : w62.cell? ⟨gb278, 2, none⟩ = some (.int .u64 a1_2) := (blk_cell BK278.out 2).trans rfl; have hfz64_0 := blk_frozen BK278.out 0; have hfz64_1 := blk_frozen BK278.out 1; have hfz64_2 := blk_frozen BK278.out 2)))
                                obtain rfl := EQc58.out
                                go_meet
                                case rel => exact ⟨_, ((((rd_T25 t282 x52_1).f1) == a1_1)), (by first | rfl | (simp; done) | (simp [*]; done)), H', ⟨by have := HK1.out; first | omega | exact Nat.le_refl _⟩, ⟨by (with_reducible repeat (first | apply Kd.V_alloc | apply Kd.V_drewN | apply Kd.V_drew)); exact HO_5.out⟩, ⟨by (with_reducible repeat (first | apply Kd.V_alloc | apply Kd.V_drewN | apply Kd.V_drew)); exact HO_50.out⟩, ⟨by (with_reducible repeat (first | refine blk_drewN ?_ _ | refine blk_drew ?_ | refine blk_alloc ?_ _)); exact BK278.out⟩, ⟨by (with_reducible repeat (first | refine blk_drewN ?_ _ | refine blk_drew ?_ | refine blk_alloc ?_ _)); exact BK290.out⟩, ⟨by repeat (first | (with_reducible first | exact HB.out | apply below_alloc | apply pw_below_drewN | apply below_drew1 | refine below_set ?_ GE278.out | refine below_set ?_ GE290.out) | exact HB.out)⟩⟩
                              · rw [if_neg c58] at H
                                have c58b0 : (t285 == 4) = false := beq_eq_false_iff_ne.mpr c58
                                have c58b1 : (t285 != 4) = true := bne_iff_ne.mpr c58
                                have H' := Aside0.mk H
                                clear H
                                have hnb65 := NB278_290.out
                                have hnc65 := NB290_278.out
                                have hcz66_0 : w19.cell? ⟨gb278, 0, none⟩ = some (.int .i64 a1_0) := (blk_cell BK278.out 0).trans rfl
                                have hcz66_1 : w19.cell? ⟨gb278, 1, none⟩ = some (.int .u64 a1_1) := (blk_cell BK278.out 1).trans rfl
                                have hcz66_2 : w19.cell? ⟨gb278, 2, none⟩ = some (.int .u64 a1_2) := (blk_cell BK278.out 2).trans rfl
                                have hfz66_0 := blk_frozen BK278.out 0
                                have hfz66_1 := blk_frozen BK278.out 1
                                have hfz66_2 := blk_frozen BK278.out 2
                                have hcz67_0 : w19.cell? ⟨gb290, 0, none⟩ = some (.int .i64 0) := (blk_cell BK290.out 0).trans rfl
                                have hcz67_1 : w19.cell? ⟨gb290, 1, none⟩ = some (.int .u64 0) := (blk_cell BK290.out 1).trans rfl
                                have hcz67_2 : w19.cell? ⟨gb290, 2, none⟩ = some (.int .u64 0) := (blk_cell BK290.out 2).trans rfl
                                have hfz67_0 := blk_frozen BK290.out 0
                                have hfz67_1 := blk_frozen BK290.out 1
                                have hfz67_2 := blk_frozen BK290.out 2
                                go_wp2_with (first | (go_at_call 16; (with_reducible refine (points_Ahead.calls a1_0 a1_1 a1_2 ((rd_T25 t282 x52_1).f0) ((rd_T25 t282 x52_1).f1) ((rd_T25 t282 x52_1).f2) false _ A23.out).mono ?_); rintro e w68 ⟨rfl, hb⟩; have n0_ := Aside0.mk (Kd.V_below (by (with_reducible repeat (first | apply Kd.V_alloc | apply Kd.V_drewN | apply Kd.V_drew)); exact (Kd.V_mono (Kd.V_far (p := ⟨gb290, 2, none⟩) (Kd.V_far (p := ⟨gb290, 1, none⟩) (Kd.V_far (p := ⟨gb290, 0, none⟩) (Kd.V_mono HO_5.out (fun k_ hk => (⟨hk, hk.2⟩ : _ ∧ k_ ≠ gb290))) (fun _ hk => hk.2) (.int .i64 ((rd_T25 t282 x52_1).f0))) (fun _ hk => hk.2) (.int .u64 ((rd_T25 t282 x52_1).f1))) (fun _ hk => hk.2) (.int .u64 ((rd_T25 t282 x52_1).f2))) (fun _ h_ => h_.1))) hb); have n1_ := Aside0.mk (Kd.V_below (by (with_reducible repeat (first | apply Kd.V_alloc | apply Kd.V_drewN | apply Kd.V_drew)); exact (Kd.V_mono (Kd.V_far (p := ⟨gb290, 2, none⟩) (Kd.V_far (p := ⟨gb290, 1, none⟩) (Kd.V_far (p := ⟨gb290, 0, none⟩) (Kd.V_mono HO_50.out (fun k_ hk => (⟨hk, hk.2⟩ : _ ∧ k_ ≠ gb290))) (fun _ hk => hk.2) (.int .i64 ((rd_T25 t282 x52_1).f0))) (fun _ hk => hk.2) (.int .u64 ((rd_T25 t282 x52_1).f1))) (fun _ hk => hk.2) (.int .u64 ((rd_T25 t282 x52_1).f2))) (fun _ h_ => h_.1))) hb); have n2_ := Aside0.mk (blk_below (g := gb278) (o := .cells #[.int .i64 a1_0, .int .u64 a1_1, .int .u64 a1_2] 25 (0, 0)) (by (with_reducible repeat (first | refine blk_drewN ?_ _ | refine blk_drew ?_ | refine blk_alloc ?_ _)); refine blk_far ?_ NB278_290.out _; (with_reducible repeat (first | refine blk_drewN ?_ _ | refine blk_drew ?_ | refine blk_alloc ?_ _)); refine blk_far ?_ NB278_290.out _; (with_reducible repeat (first | refine blk_drewN ?_ _ | refine blk_drew ?_ | refine blk_alloc ?_ _)); refine blk_far ?_ NB278_290.out _; (with_reducible repeat (first | refine blk_drewN ?_ _ | refine blk_drew ?_ | refine blk_alloc ?_ _)); exact BK278.out) hb); have n3_ := Aside0.mk (blk_below (g := gb290) (o := .cells #[.int .i64 ((rd_T25 t282 x52_1).f0), .int .u64 ((rd_T25 t282 x52_1).f1), .int .u64 ((rd_T25 t282 x52_1).f2)] 25 (0, 0)) (by (with_reducible repeat (first | refine blk_drewN ?_ _ | refine blk_drew ?_ | refine blk_alloc ?_ _)); refine blk_put (cs := #[.int .i64 ((rd_T25 t282 x52_1).f0), .int .u64 ((rd_T25 t282 x52_1).f1), .int .u64 0]) ?_ 2 _ rfl; (with_reducible repeat (first | refine blk_drewN ?_ _ | refine blk_drew ?_ | refine blk_alloc ?_ _)); refine blk_put (cs := #[.int .i64 ((rd_T25 t282 x52_1).f0), .int .u64 0, .int .u64 0]) ?_ 1 _ rfl; (with_reducible repeat (first | refine blk_drewN ?_ _ | refine blk_drew ?_ | refine blk_alloc ?_ _)); refine blk_put (cs := #[.int .i64 0, .int .u64 0, .int .u64 0]) ?_ 0 _ rfl; (with_reducible repeat (first | refine blk_drewN ?_ _ | refine blk_drew ?_ | refine blk_alloc ?_ _)); exact BK290.out) hb); have n4_ := Aside0.mk (below_step (by repeat (first | (with_reducible first | exact HB.out | apply below_alloc | apply pw_below_drewN | apply below_drew1 | refine below_set ?_ GE278.out | refine below_set ?_ GE290.out) | exact HB.out)) hb); clear HO_5; clear HO_50; clear BK278; clear BK290; clear HB; have HO_5 := n0_; have HO_50 := n1_; have BK278 := n2_; have BK290 := n3_; have HB := n4_; clear n0_ n1_ n2_ n3_ n4_; (try clear hb); (try clear hb2); (try clear hk); (try clear hi); have hcz69_0 : w68.cell? ⟨gb290, 0, none⟩ = some (.int .i64 ((rd_T25 t282 x52_1).f0)) := (blk_cell BK290.out 0).trans rfl; have hcz69_1 : w68.cell? ⟨gb290, 1, none⟩ = some (.int .u64 ((rd_T25 t282 x52_1).f1)) := (blk_cell BK290.out 1).trans rfl; have hcz69_2 : w68.cell? ⟨gb290, 2, none⟩ = some (.int .u64 ((rd_T25 t282 x52_1).f2)) := (blk_cell BK290.out 2).trans rfl; have hfz69_0 := blk_frozen BK290.out 0; have hfz69_1 := blk_frozen BK290.out 1; have hfz69_2 := blk_frozen BK290.out 2; have hcz70_0 : w68.cell? ⟨gb278, 0, none⟩ = some (.int .i64 a1_0) := (blk_cell BK278.out 0).trans rfl; have hcz70_1 : w68.cell? ⟨gb278, 1, none⟩ = some (.int .u64 a1_1) := (blk_cell BK278.out 1).trans rfl; have hcz70_2 : w68.cell? ⟨gb278, 2, none⟩ = some (.int .u64 a1_2) := (blk_cell BK278.out 2).trans rfl; have hfz70_0 := blk_frozen BK278.out 0; have hfz70_1 := blk_frozen BK278.out 1; have hfz70_2 := blk_frozen BK278.out 2))
                                repeat (go_quiet (fail); try go_wp2_with (first | (go_at_call 16; (with_reducible refine (points_Ahead.calls a1_0 a1_1 a1_2 ((rd_T25 t282 x52_1).f0) ((rd_T25 t282 x52_1).f1) ((rd_T25 t282 x52_1).f2) false _ A23.out).mono ?_); rintro e w68 ⟨rfl, hb⟩; have n0_ := Aside0.mk (Kd.V_below (by (with_reducible repeat (first | apply Kd.V_alloc | apply Kd.V_drewN | apply Kd.V_drew)); exact (Kd.V_mono (Kd.V_far (p := ⟨gb290, 2, none⟩) (Kd.V_far (p := ⟨gb290, 1, none⟩) (Kd.V_far (p := ⟨gb290, 0, none⟩) (Kd.V_mono HO_5.out (fun k_ hk => (⟨hk, hk.2⟩ : _ ∧ k_ ≠ gb290))) (fun _ hk => hk.2) (.int .i64 ((rd_T25 t282 x52_1).f0))) (fun _ hk => hk.2) (.int .u64 ((rd_T25 t282 x52_1).f1))) (fun _ hk => hk.2) (.int .u64 ((rd_T25 t282 x52_1).f2))) (fun _ h_ => h_.1))) hb); have n1_ := Aside0.mk (Kd.V_below (by (with_reducible repeat (first | apply Kd.V_alloc | apply Kd.V_drewN | apply Kd.V_drew)); exact (Kd.V_mono (Kd.V_far (p := ⟨gb290, 2, none⟩) (Kd.V_far (p := ⟨gb290, 1, none⟩) (Kd.V_far (p := ⟨gb290, 0, none⟩) (Kd.V_mono HO_50.out (fun k_ hk => (⟨hk, hk.2⟩ : _ ∧ k_ ≠ gb290))) (fun _ hk => hk.2) (.int .i64 ((rd_T25 t282 x52_1).f0))) (fun _ hk => hk.2) (.int .u64 ((rd_T25 t282 x52_1).f1))) (fun _ hk => hk.2) (.int .u64 ((rd_T25 t282 x52_1).f2))) (fun _ h_ => h_.1))) hb); have n2_ := Aside0.mk (blk_below (g := gb278) (o := .cells #[.int .i64 a1_0, .int .u64 a1_1, .int .u64 a1_2] 25 (0, 0)) (by (with_reducible repeat (first | refine blk_drewN ?_ _ | refine blk_drew ?_ | refine blk_alloc ?_ _)); refine blk_far ?_ NB278_290.out _; (with_reducible repeat (first | refine blk_drewN ?_ _ | refine blk_drew ?_ | refine blk_alloc ?_ _)); refine blk_far ?_ NB278_290.out _; (with_reducible repeat (first | refine blk_drewN ?_ _ | refine blk_drew ?_ | refine blk_alloc ?_ _)); refine blk_far ?_ NB278_290.out _; (with_reducible repeat (first | refine blk_drewN ?_ _ | refine blk_drew ?_ | refine blk_alloc ?_ _)); exact BK278.out) hb); have n3_ := Aside0.mk (blk_below (g := gb290) (o := .cells #[.int .i64 ((rd_T25 t282 x52_1).f0), .int .u64 ((rd_T25 t282 x52_1).f1), .int .u64 ((rd_T25 t282 x52_1).f2)] 25 (0, 0)) (by (with_reducible repeat (first | refine blk_drewN ?_ _ | refine blk_drew ?_ | refine blk_alloc ?_ _)); refine blk_put (cs := #[.int .i64 ((rd_T25 t282 x52_1).f0), .int .u64 ((rd_T25 t282 x52_1).f1), .int .u64 0]) ?_ 2 _ rfl; (with_reducible repeat (first | refine blk_drewN ?_ _ | refine blk_drew ?_ | refine blk_alloc ?_ _)); refine blk_put (cs := #[.int .i64 ((rd_T25 t282 x52_1).f0), .int .u64 0, .int .u64 0]) ?_ 1 _ rfl; (with_reducible repeat (first | refine blk_drewN ?_ _ | refine blk_drew ?_ | refine blk_alloc ?_ _)); refine blk_put (cs := #[.int .i64 0, .int .u64 0, .int .u64 0]) ?_ 0 _ rfl; (with_reducible repeat (first | refine blk_drewN ?_ _ | refine blk_drew ?_ | refine blk_alloc ?_ _)); exact BK290.out) hb); have n4_ := Aside0.mk (below_step (by repeat (first | (with_reducible first | exact HB.out | apply below_alloc | apply pw_below_drewN | apply below_drew1 | refine below_set ?_ GE278.out | refine below_set ?_ GE290.out) | exact HB.out)) hb); clear HO_5; clear HO_50; clear BK278; clear BK290; clear HB; have HO_5 := n0_; have HO_50 := n1_; have BK278 := n2_; have BK290 := n3_; have HB := n4_; clear n0_ n1_ n2_ n3_ n4_; (try clear hb); (try clear hb2); (try clear hk); (try clear hi); have hcz69_0 : w68.cell? ⟨gb290, 0, none⟩ = some (.int .i64 ((rd_T25 t282 x52_1).f0)) := (blk_cell BK290.out 0).trans rfl; have hcz69_1 : w68.cell? ⟨gb290, 1, none⟩ = some (.int .u64 ((rd_T25 t282 x52_1).f1)) := (blk_cell BK290.out 1).trans rfl; have hcz69_2 : w68.cell? ⟨gb290, 2, none⟩ = some (.int .u64 ((rd_T25 t282 x52_1).f2)) := (blk_cell BK290.out 2).trans rfl; have hfz69_0 := blk_frozen BK290.out 0; have hfz69_1 := blk_frozen BK290.out 1; have hfz69_2 := blk_frozen BK290.out 2; have hcz70_0 : w68.cell? ⟨gb278, 0, none⟩ = some (.int .i64 a1_0) := (blk_cell BK278.out 0).trans rfl; have hcz70_1 : w68.cell? ⟨gb278, 1, none⟩ = some (.int .u64 a1_1) := (blk_cell BK278.out 1).trans rfl; have hcz70_2 : w68.cell? ⟨gb278, 2, none⟩ = some (.int .u64 a1_2) := (blk_cell BK278.out 2).trans rfl; have hfz70_0 := blk_frozen BK278.out 0; have hfz70_1 := blk_frozen BK278.out 1; have hfz70_2 := blk_frozen BK278.out 2)))
                                go_meet
                                case rel => exact ⟨_, (false), (by first | rfl | (simp; done) | (simp [*]; done)), H', ⟨by have := HK1.out; first | omega | exact Nat.le_refl _⟩, ⟨by (with_reducible repeat (first | apply Kd.V_alloc | apply Kd.V_drewN | apply Kd.V_drew)); exact HO_5.out⟩, ⟨by (with_reducible repeat (first | apply Kd.V_alloc | apply Kd.V_drewN | apply Kd.V_drew)); exact HO_50.out⟩, ⟨by (with_reducible repeat (first | refine blk_drewN ?_ _ | refine blk_drew ?_ | refine blk_alloc ?_ _)); exact BK278.out⟩, ⟨by (with_reducible repeat (first | refine blk_drewN ?_ _ | refine blk_drew ?_ | refine blk_alloc ?_ _)); exact BK290.out⟩, ⟨by repeat (first | (with_reducible first | exact HB.out | apply below_alloc | apply pw_below_drewN | apply below_drew1 | refine below_set ?_ GE278.out | refine below_set ?_ GE290.out) | exact HB.out)⟩⟩
                    · rw [if_neg c25] at H
                      have c25b0 : (((rd_T25 t282 x52_1).f1) == a1_1) = false := beq_eq_false_iff_ne.mpr c25
                      have c25b1 : (((rd_T25 t282 x52_1).f1) != a1_1) = true := bne_iff_ne.mpr c25
                      (first | rw [c25b0] | (simp only [i64_w, i32_w]; rw [c25b0]) | skip)
                      by_cases c71 : t285 = 1
                      · rw [if_pos c71] at H
                        have c71b0 : (t285 == 1) = true := beq_iff_eq.mpr c71
                        have c71b1 : (t285 != 1) = false := bne_eq_false_iff_eq.mpr c71
                        have EQc71 := Aside0.mk c71
                        clear c71
                        have h_ := HT_r.out
                        subst h_
                        exact absurd H (by cases k1 <;> simp [manometerlaw09_PointsStays.j1])
                      · rw [if_neg c71] at H
                        have c71b0 : (t285 == 1) = false := beq_eq_false_iff_ne.mpr c71
                        have c71b1 : (t285 != 1) = true := bne_iff_ne.mpr c71
                        by_cases c72 : t285 = 3
                        · rw [if_pos c72] at H
                          have c72b0 : (t285 == 3) = true := beq_iff_eq.mpr c72
                          have c72b1 : (t285 != 3) = false := bne_eq_false_iff_eq.mpr c72
                          have EQc72 := Aside0.mk c72
                          clear c72
                          have h_ := HT_r.out
                          subst h_
                          exact absurd H (by cases k1 <;> simp [manometerlaw09_PointsStays.j1])
                        · rw [if_neg c72] at H
                          have c72b0 : (t285 == 3) = false := beq_eq_false_iff_ne.mpr c72
                          have c72b1 : (t285 != 3) = true := bne_iff_ne.mpr c72
                          by_cases c73 : t285 = 2
                          · rw [if_pos c73] at H
                            have c73b0 : (t285 == 2) = true := beq_iff_eq.mpr c73
                            have c73b1 : (t285 != 2) = false := bne_eq_false_iff_eq.mpr c73
                            have EQc73 := Aside0.mk c73
                            clear c73
                            have h_ := HT_r.out
                            subst h_
                            exact absurd H (by cases k1 <;> simp [manometerlaw09_PointsStays.j1])
                          · rw [if_neg c73] at H
                            have c73b0 : (t285 == 2) = false := beq_eq_false_iff_ne.mpr c73
                            have c73b1 : (t285 != 2) = true := bne_iff_ne.mpr c73
                            by_cases c74 : t285 = 4
                            · rw [if_pos c74] at H
                              have c74b0 : (t285 == 4) = true := beq_iff_eq.mpr c74
                              have c74b1 : (t285 != 4) = false := bne_eq_false_iff_eq.mpr c74
                              have EQc74 := Aside0.mk c74
                              clear c74
                              have H' := Aside0.mk H
                              clear H
                              have hnb75 := NB278_290.out
                              have hnc75 := NB290_278.out
                              have hcz76_0 : w19.cell? ⟨gb278, 0, none⟩ = some (.int .i64 a1_0) := (blk_cell BK278.out 0).trans rfl
                              have hcz76_1 : w19.cell? ⟨gb278, 1, none⟩ = some (.int .u64 a1_1) := (blk_cell BK278.out 1).trans rfl
                              have hcz76_2 : w19.cell? ⟨gb278, 2, none⟩ = some (.int .u64 a1_2) := (blk_cell BK278.out 2).trans rfl
                              have hfz76_0 := blk_frozen BK278.out 0
                              have hfz76_1 := blk_frozen BK278.out 1
                              have hfz76_2 := blk_frozen BK278.out 2
                              have hcz77_0 : w19.cell? ⟨gb290, 0, none⟩ = some (.int .i64 0) := (blk_cell BK290.out 0).trans rfl
                              have hcz77_1 : w19.cell? ⟨gb290, 1, none⟩ = some (.int .u64 0) := (blk_cell BK290.out 1).trans rfl
                              have hcz77_2 : w19.cell? ⟨gb290, 2, none⟩ = some (.int .u64 0) := (blk_cell BK290.out 2).trans rfl
                              have hfz77_0 := blk_frozen BK290.out 0
                              have hfz77_1 := blk_frozen BK290.out 1
                              have hfz77_2 := blk_frozen BK290.out 2
                              go_wp2_with (first | (go_at_call 16; (with_reducible refine (points_Ahead.calls a1_0 a1_1 a1_2 ((rd_T25 t282 x52_1).f0) ((rd_T25 t282 x52_1).f1) ((rd_T25 t282 x52_1).f2) false _ A23.out).mono ?_); rintro e w78 ⟨rfl, hb⟩; have n0_ := Aside0.mk (Kd.V_below (by (with_reducible repeat (first | apply Kd.V_alloc | apply Kd.V_drewN | apply Kd.V_drew)); exact (Kd.V_mono (Kd.V_far (p := ⟨gb290, 2, none⟩) (Kd.V_far (p := ⟨gb290, 1, none⟩) (Kd.V_far (p := ⟨gb290, 0, none⟩) (Kd.V_mono HO_5.out (fun k_ hk => (⟨hk, hk.2⟩ : _ ∧ k_ ≠ gb290))) (fun _ hk => hk.2) (.int .i64 ((rd_T25 t282 x52_1).f0))) (fun _ hk => hk.2) (.int .u64 ((rd_T25 t282 x52_1).f1))) (fun _ hk => hk.2) (.int .u64 ((rd_T25 t282 x52_1).f2))) (fun _ h_ => h_.1))) hb); have n1_ := Aside0.mk (Kd.V_below (by (with_reducible repeat (first | apply Kd.V_alloc | apply Kd.V_drewN | apply Kd.V_drew)); exact (Kd.V_mono (Kd.V_far (p := ⟨gb290, 2, none⟩) (Kd.V_far (p := ⟨gb290, 1, none⟩) (Kd.V_far (p := ⟨gb290, 0, none⟩) (Kd.V_mono HO_50.out (fun k_ hk => (⟨hk, hk.2⟩ : _ ∧ k_ ≠ gb290))) (fun _ hk => hk.2) (.int .i64 ((rd_T25 t282 x52_1).f0))) (fun _ hk => hk.2) (.int .u64 ((rd_T25 t282 x52_1).f1))) (fun _ hk => hk.2) (.int .u64 ((rd_T25 t282 x52_1).f2))) (fun _ h_ => h_.1))) hb); have n2_ := Aside0.mk (blk_below (g := gb278) (o := .cells #[.int .i64 a1_0, .int .u64 a1_1, .int .u64 a1_2] 25 (0, 0)) (by (with_reducible repeat (first | refine blk_drewN ?_ _ | refine blk_drew ?_ | refine blk_alloc ?_ _)); refine blk_far ?_ NB278_290.out _; (with_reducible repeat (first | refine blk_drewN ?_ _ | refine blk_drew ?_ | refine blk_alloc ?_ _)); refine blk_far ?_ NB278_290.out _; (with_reducible repeat (first | refine blk_drewN ?_ _ | refine blk_drew ?_ | refine blk_alloc ?_ _)); refine blk_far ?_ NB278_290.out _; (with_reducible repeat (first | refine blk_drewN ?_ _ | refine blk_drew ?_ | refine blk_alloc ?_ _)); exact BK278.out) hb); have n3_ := Aside0.mk (blk_below (g := gb290) (o := .cells #[.int .i64 ((rd_T25 t282 x52_1).f0), .int .u64 ((rd_T25 t282 x52_1).f1), .int .u64 ((rd_T25 t282 x52_1).f2)] 25 (0, 0)) (by (with_reducible repeat (first | refine blk_drewN ?_ _ | refine blk_drew ?_ | refine blk_alloc ?_ _)); refine blk_put (cs := #[.int .i64 ((rd_T25 t282 x52_1).f0), .int .u64 ((rd_T25 t282 x52_1).f1), .int .u64 0]) ?_ 2 _ rfl; (with_reducible repeat (first | refine blk_drewN ?_ _ | refine blk_drew ?_ | refine blk_alloc ?_ _)); refine blk_put (cs := #[.int .i64 ((rd_T25 t282 x52_1).f0), .int .u64 0, .int .u64 0]) ?_ 1 _ rfl; (with_reducible repeat (first | refine blk_drewN ?_ _ | refine blk_drew ?_ | refine blk_alloc ?_ _)); refine blk_put (cs := #[.int .i64 0, .int .u64 0, .int .u64 0]) ?_ 0 _ rfl; (with_reducible repeat (first | refine blk_drewN ?_ _ | refine blk_drew ?_ | refine blk_alloc ?_ _)); exact BK290.out) hb); have n4_ := Aside0.mk (below_step (by repeat (first | (with_reducible first | exact HB.out | apply below_alloc | apply pw_below_drewN | apply below_drew1 | refine below_set ?_ GE278.out | refine below_set ?_ GE290.out) | exact HB.out)) hb); clear HO_5; clear HO_50; clear BK278; clear BK290; clear HB; have HO_5 := n0_; have HO_50 := n1_; have BK278 := n2_; have BK290 := n3_; have HB := n4_; clear n0_ n1_ n2_ n3_ n4_; (try clear hb); (try clear hb2); (try clear hk); (try clear hi); have hcz79_0 : w78.cell? ⟨gb290, 0, none⟩ = some (.int .i64 ((rd_T25 t282 x52_1).f0)) := (blk_cell BK290.out 0).trans rfl; have hcz79_1 : w78.cell? ⟨gb290, 1, none⟩ = some (.int .u64 ((rd_T25 t282 x52_1).f1)) := (blk_cell BK290.out 1).trans rfl; have hcz79_2 : w78.cell? ⟨gb290, 2, none⟩ = some (.int .u64 ((rd_T25 t282 x52_1).f2)) := (blk_cell BK290.out 2).trans rfl; have hfz79_0 := blk_frozen BK290.out 0; have hfz79_1 := blk_frozen BK290.out 1; have hfz79_2 := blk_frozen BK290.out 2; have hcz80_0 : w78.cell? ⟨gb278, 0, none⟩ = some (.int .i64 a1_0) := (blk_cell BK278.out 0).trans rfl; have hcz80_1 : w78.cell? ⟨gb278, 1, none⟩ = some (.int .u64 a1_1) := (blk_cell BK278.out 1).trans rfl; have hcz80_2 : w78.cell? ⟨gb278, 2, none⟩ = some (.int .u64 a1_2) := (blk_cell BK278.out 2).trans rfl; have hfz80_0 := blk_frozen BK278.out 0; have hfz80_1 := blk_frozen BK278.out 1; have hfz80_2 := blk_frozen BK278.out 2))
                              repeat (go_quiet (fail); try go_wp2_with (first | (go_at_call 16; (with_reducible refine (points_Ahead.calls a1_0 a1_1 a1_2 ((rd_T25 t282 x52_1).f0) ((rd_T25 t282 x52_1).f1) ((rd_T25 t282 x52_1).f2) false _ A23.out).mono ?_); rintro e w78 ⟨rfl, hb⟩; have n0_ := Aside0.mk (Kd.V_below (by (with_reducible repeat (first | apply Kd.V_alloc | apply Kd.V_drewN | apply Kd.V_drew)); exact (Kd.V_mono (Kd.V_far (p := ⟨gb290, 2, none⟩) (Kd.V_far (p := ⟨gb290, 1, none⟩) (Kd.V_far (p := ⟨gb290, 0, none⟩) (Kd.V_mono HO_5.out (fun k_ hk => (⟨hk, hk.2⟩ : _ ∧ k_ ≠ gb290))) (fun _ hk => hk.2) (.int .i64 ((rd_T25 t282 x52_1).f0))) (fun _ hk => hk.2) (.int .u64 ((rd_T25 t282 x52_1).f1))) (fun _ hk => hk.2) (.int .u64 ((rd_T25 t282 x52_1).f2))) (fun _ h_ => h_.1))) hb); have n1_ := Aside0.mk (Kd.V_below (by (with_reducible repeat (first | apply Kd.V_alloc | apply Kd.V_drewN | apply Kd.V_drew)); exact (Kd.V_mono (Kd.V_far (p := ⟨gb290, 2, none⟩) (Kd.V_far (p := ⟨gb290, 1, none⟩) (Kd.V_far (p := ⟨gb290, 0, none⟩) (Kd.V_mono HO_50.out (fun k_ hk => (⟨hk, hk.2⟩ : _ ∧ k_ ≠ gb290))) (fun _ hk => hk.2) (.int .i64 ((rd_T25 t282 x52_1).f0))) (fun _ hk => hk.2) (.int .u64 ((rd_T25 t282 x52_1).f1))) (fun _ hk => hk.2) (.int .u64 ((rd_T25 t282 x52_1).f2))) (fun _ h_ => h_.1))) hb); have n2_ := Aside0.mk (blk_below (g := gb278) (o := .cells #[.int .i64 a1_0, .int .u64 a1_1, .int .u64 a1_2] 25 (0, 0)) (by (with_reducible repeat (first | refine blk_drewN ?_ _ | refine blk_drew ?_ | refine blk_alloc ?_ _)); refine blk_far ?_ NB278_290.out _; (with_reducible repeat (first | refine blk_drewN ?_ _ | refine blk_drew ?_ | refine blk_alloc ?_ _)); refine blk_far ?_ NB278_290.out _; (with_reducible repeat (first | refine blk_drewN ?_ _ | refine blk_drew ?_ | refine blk_alloc ?_ _)); refine blk_far ?_ NB278_290.out _; (with_reducible repeat (first | refine blk_drewN ?_ _ | refine blk_drew ?_ | refine blk_alloc ?_ _)); exact BK278.out) hb); have n3_ := Aside0.mk (blk_below (g := gb290) (o := .cells #[.int .i64 ((rd_T25 t282 x52_1).f0), .int .u64 ((rd_T25 t282 x52_1).f1), .int .u64 ((rd_T25 t282 x52_1).f2)] 25 (0, 0)) (by (with_reducible repeat (first | refine blk_drewN ?_ _ | refine blk_drew ?_ | refine blk_alloc ?_ _)); refine blk_put (cs := #[.int .i64 ((rd_T25 t282 x52_1).f0), .int .u64 ((rd_T25 t282 x52_1).f1), .int .u64 0]) ?_ 2 _ rfl; (with_reducible repeat (first | refine blk_drewN ?_ _ | refine blk_drew ?_ | refine blk_alloc ?_ _)); refine blk_put (cs := #[.int .i64 ((rd_T25 t282 x52_1).f0), .int .u64 0, .int .u64 0]) ?_ 1 _ rfl; (with_reducible repeat (first | refine blk_drewN ?_ _ | refine blk_drew ?_ | refine blk_alloc ?_ _)); refine blk_put (cs := #[.int .i64 0, .int .u64 0, .int .u64 0]) ?_ 0 _ rfl; (with_reducible repeat (first | refine blk_drewN ?_ _ | refine blk_drew ?_ | refine blk_alloc ?_ _)); exact BK290.out) hb); have n4_ := Aside0.mk (below_step (by repeat (first | (with_reducible first | exact HB.out | apply below_alloc | apply pw_below_drewN | apply below_drew1 | refine below_set ?_ GE278.out | refine below_set ?_ GE290.out) | exact HB.out)) hb); clear HO_5; clear HO_50; clear BK278; clear BK290; clear HB; have HO_5 := n0_; have HO_50 := n1_; have BK278 := n2_; have BK290 := n3_; have HB := n4_; clear n0_ n1_ n2_ n3_ n4_; (try clear hb); (try clear hb2); (try clear hk); (try clear hi); have hcz79_0 : w78.cell? ⟨gb290, 0, none⟩ = some (.int .i64 ((rd_T25 t282 x52_1).f0)) := (blk_cell BK290.out 0).trans rfl; have hcz79_1 : w78.cell? ⟨gb290, 1, none⟩ = some (.int .u64 ((rd_T25 t282 x52_1).f1)) := (blk_cell BK290.out 1).trans rfl; have hcz79_2 : w78.cell? ⟨gb290, 2, none⟩ = some (.int .u64 ((rd_T25 t282 x52_1).f2)) := (blk_cell BK290.out 2).trans rfl; have hfz79_0 := blk_frozen BK290.out 0; have hfz79_1 := blk_frozen BK290.out 1; have hfz79_2 := blk_frozen BK290.out 2; have hcz80_0 : w78.cell? ⟨gb278, 0, none⟩ = some (.int .i64 a1_0) := (blk_cell BK278.out 0).trans rfl; have hcz80_1 : w78.cell? ⟨gb278, 1, none⟩ = some (.int .u64 a1_1) := (blk_cell BK278.out 1).trans rfl; have hcz80_2 : w78.cell? ⟨gb278, 2, none⟩ = some (.int .u64 a1_2) := (blk_cell BK278.out 2).trans rfl; have hfz80_0 := blk_frozen BK278.out 0; have hfz80_1 := blk_frozen BK278.out 1; have hfz80_2 := blk_frozen BK278.out 2)))
                              obtain rfl := EQc74.out
                              go_meet
                              case rel => exact ⟨_, ((((rd_T25 t282 x52_1).f1) == a1_1)), (by first | rfl | (simp; done) | (simp [*]; done)), H', ⟨by have := HK1.out; first | omega | exact Nat.le_refl _⟩, ⟨by (with_reducible repeat (first | apply Kd.V_alloc | apply Kd.V_drewN | apply Kd.V_drew)); exact HO_5.out⟩, ⟨by (with_reducible repeat (first | apply Kd.V_alloc | apply Kd.V_drewN | apply Kd.V_drew)); exact HO_50.out⟩, ⟨by (with_reducible repeat (first | refine blk_drewN ?_ _ | refine blk_drew ?_ | refine blk_alloc ?_ _)); exact BK278.out⟩, ⟨by (with_reducible repeat (first | refine blk_drewN ?_ _ | refine blk_drew ?_ | refine blk_alloc ?_ _)); exact BK290.out⟩, ⟨by repeat (first | (with_reducible first | exact HB.out | apply below_alloc | apply pw_below_drewN | apply below_drew1 | refine below_set ?_ GE278.out | refine below_set ?_ GE290.out) | exact HB.out)⟩⟩
                            · rw [if_neg c74] at H
                              have c74b0 : (t285 == 4) = false := beq_eq_false_iff_ne.mpr c74
                              have c74b1 : (t285 != 4) = true := bne_iff_ne.mpr c74
                              have H' := Aside0.mk H
                              clear H
                              have hnb81 := NB278_290.out
                              have hnc81 := NB290_278.out
                              have hcz82_0 : w19.cell? ⟨gb278, 0, none⟩ = some (.int .i64 a1_0) := (blk_cell BK278.out 0).trans rfl
                              have hcz82_1 : w19.cell? ⟨gb278, 1, none⟩ = some (.int .u64 a1_1) := (blk_cell BK278.out 1).trans rfl
                              have hcz82_2 : w19.cell? ⟨gb278, 2, none⟩ = some (.int .u64 a1_2) := (blk_cell BK278.out 2).trans rfl
                              have hfz82_0 := blk_frozen BK278.out 0
                              have hfz82_1 := blk_frozen BK278.out 1
                              have hfz82_2 := blk_frozen BK278.out 2
                              have hcz83_0 : w19.cell? ⟨gb290, 0, none⟩ = some (.int .i64 0) := (blk_cell BK290.out 0).trans rfl
                              have hcz83_1 : w19.cell? ⟨gb290, 1, none⟩ = some (.int .u64 0) := (blk_cell BK290.out 1).trans rfl
                              have hcz83_2 : w19.cell? ⟨gb290, 2, none⟩ = some (.int .u64 0) := (blk_cell BK290.out 2).trans rfl
                              have hfz83_0 := blk_frozen BK290.out 0
                              have hfz83_1 := blk_frozen BK290.out 1
                              have hfz83_2 := blk_frozen BK290.out 2
                              go_wp2_with (first | (go_at_call 16; (with_reducible refine (points_Ahead.calls a1_0 a1_1 a1_2 ((rd_T25 t282 x52_1).f0) ((rd_T25 t282 x52_1).f1) ((rd_T25 t282 x52_1).f2) false _ A23.out).mono ?_); rintro e w84 ⟨rfl, hb⟩; have n0_ := Aside0.mk (Kd.V_below (by (with_reducible repeat (first | apply Kd.V_alloc | apply Kd.V_drewN | apply Kd.V_drew)); exact (Kd.V_mono (Kd.V_far (p := ⟨gb290, 2, none⟩) (Kd.V_far (p := ⟨gb290, 1, none⟩) (Kd.V_far (p := ⟨gb290, 0, none⟩) (Kd.V_mono HO_5.out (fun k_ hk => (⟨hk, hk.2⟩ : _ ∧ k_ ≠ gb290))) (fun _ hk => hk.2) (.int .i64 ((rd_T25 t282 x52_1).f0))) (fun _ hk => hk.2) (.int .u64 ((rd_T25 t282 x52_1).f1))) (fun _ hk => hk.2) (.int .u64 ((rd_T25 t282 x52_1).f2))) (fun _ h_ => h_.1))) hb); have n1_ := Aside0.mk (Kd.V_below (by (with_reducible repeat (first | apply Kd.V_alloc | apply Kd.V_drewN | apply Kd.V_drew)); exact (Kd.V_mono (Kd.V_far (p := ⟨gb290, 2, none⟩) (Kd.V_far (p := ⟨gb290, 1, none⟩) (Kd.V_far (p := ⟨gb290, 0, none⟩) (Kd.V_mono HO_50.out (fun k_ hk => (⟨hk, hk.2⟩ : _ ∧ k_ ≠ gb290))) (fun _ hk => hk.2) (.int .i64 ((rd_T25 t282 x52_1).f0))) (fun _ hk => hk.2) (.int .u64 ((rd_T25 t282 x52_1).f1))) (fun _ hk => hk.2) (.int .u64 ((rd_T25 t282 x52_1).f2))) (fun _ h_ => h_.1))) hb); have n2_ := Aside0.mk (blk_below (g := gb278) (o := .cells #[.int .i64 a1_0, .int .u64 a1_1, .int .u64 a1_2] 25 (0, 0)) (by (with_reducible repeat (first | refine blk_drewN ?_ _ | refine blk_drew ?_ | refine blk_alloc ?_ _)); refine blk_far ?_ NB278_290.out _; (with_reducible repeat (first | refine blk_drewN ?_ _ | refine blk_drew ?_ | refine blk_alloc ?_ _)); refine blk_far ?_ NB278_290.out _; (with_reducible repeat (first | refine blk_drewN ?_ _ | refine blk_drew ?_ | refine blk_alloc ?_ _)); refine blk_far ?_ NB278_290.out _; (with_reducible repeat (first | refine blk_drewN ?_ _ | refine blk_drew ?_ | refine blk_alloc ?_ _)); exact BK278.out) hb); have n3_ := Aside0.mk (blk_below (g := gb290) (o := .cells #[.int .i64 ((rd_T25 t282 x52_1).f0), .int .u64 ((rd_T25 t282 x52_1).f1), .int .u64 ((rd_T25 t282 x52_1).f2)] 25 (0, 0)) (by (with_reducible repeat (first | refine blk_drewN ?_ _ | refine blk_drew ?_ | refine blk_alloc ?_ _)); refine blk_put (cs := #[.int .i64 ((rd_T25 t282 x52_1).f0), .int .u64 ((rd_T25 t282 x52_1).f1), .int .u64 0]) ?_ 2 _ rfl; (with_reducible repeat (first | refine blk_drewN ?_ _ | refine blk_drew ?_ | refine blk_alloc ?_ _)); refine blk_put (cs := #[.int .i64 ((rd_T25 t282 x52_1).f0), .int .u64 0, .int .u64 0]) ?_ 1 _ rfl; (with_reducible repeat (first | refine blk_drewN ?_ _ | refine blk_drew ?_ | refine blk_alloc ?_ _)); refine blk_put (cs := #[.int .i64 0, .int .u64 0, .int .u64 0]) ?_ 0 _ rfl; (with_reducible repeat (first | refine blk_drewN ?_ _ | refine blk_drew ?_ | refine blk_alloc ?_ _)); exact BK290.out) hb); have n4_ := Aside0.mk (below_step (by repeat (first | (with_reducible first | exact HB.out | apply below_alloc | apply pw_below_drewN | apply below_drew1 | refine below_set ?_ GE278.out | refine below_set ?_ GE290.out) | exact HB.out)) hb); clear HO_5; clear HO_50; clear BK278; clear BK290; clear HB; have HO_5 := n0_; have HO_50 := n1_; have BK278 := n2_; have BK290 := n3_; have HB := n4_; clear n0_ n1_ n2_ n3_ n4_; (try clear hb); (try clear hb2); (try clear hk); (try clear hi); have hcz85_0 : w84.cell? ⟨gb290, 0, none⟩ = some (.int .i64 ((rd_T25 t282 x52_1).f0)) := (blk_cell BK290.out 0).trans rfl; have hcz85_1 : w84.cell? ⟨gb290, 1, none⟩ = some (.int .u64 ((rd_T25 t282 x52_1).f1)) := (blk_cell BK290.out 1).trans rfl; have hcz85_2 : w84.cell? ⟨gb290, 2, none⟩ = some (.int .u64 ((rd_T25 t282 x52_1).f2)) := (blk_cell BK290.out 2).trans rfl; have hfz85_0 := blk_frozen BK290.out 0; have hfz85_1 := blk_frozen BK290.out 1; have hfz85_2 := blk_frozen BK290.out 2; have hcz86_0 : w84.cell? ⟨gb278, 0, none⟩ = some (.int .i64 a1_0) := (blk_cell BK278.out 0).trans rfl; have hcz86_1 : w84.cell? ⟨gb278, 1, none⟩ = some (.int .u64 a1_1) := (blk_cell BK278.out 1).trans rfl; have hcz86_2 : w84.cell? ⟨gb278, 2, none⟩ = some (.int .u64 a1_2) := (blk_cell BK278.out 2).trans rfl; have hfz86_0 := blk_frozen BK278.out 0; have hfz86_1 := blk_frozen BK278.out 1; have hfz86_2 := blk_frozen BK278.out 2))
                              repeat (go_quiet (fail); try go_wp2_with (first | (go_at_call 16; (with_reducible refine (points_Ahead.calls a1_0 a1_1 a1_2 ((rd_T25 t282 x52_1).f0) ((rd_T25 t282 x52_1).f1) ((rd_T25 t282 x52_1).f2) false _ A23.out).mono ?_); rintro e w84 ⟨rfl, hb⟩; have n0_ := Aside0.mk (Kd.V_below (by (with_reducible repeat (first | apply Kd.V_alloc | apply Kd.V_drewN | apply Kd.V_drew)); exact (Kd.V_mono (Kd.V_far (p := ⟨gb290, 2, none⟩) (Kd.V_far (p := ⟨gb290, 1, none⟩) (Kd.V_far (p := ⟨gb290, 0, none⟩) (Kd.V_mono HO_5.out (fun k_ hk => (⟨hk, hk.2⟩ : _ ∧ k_ ≠ gb290))) (fun _ hk => hk.2) (.int .i64 ((rd_T25 t282 x52_1).f0))) (fun _ hk => hk.2) (.int .u64 ((rd_T25 t282 x52_1).f1))) (fun _ hk => hk.2) (.int .u64 ((rd_T25 t282 x52_1).f2))) (fun _ h_ => h_.1))) hb); have n1_ := Aside0.mk (Kd.V_below (by (with_reducible repeat (first | apply Kd.V_alloc | apply Kd.V_drewN | apply Kd.V_drew)); exact (Kd.V_mono (Kd.V_far (p := ⟨gb290, 2, none⟩) (Kd.V_far (p := ⟨gb290, 1, none⟩) (Kd.V_far (p := ⟨gb290, 0, none⟩) (Kd.V_mono HO_50.out (fun k_ hk => (⟨hk, hk.2⟩ : _ ∧ k_ ≠ gb290))) (fun _ hk => hk.2) (.int .i64 ((rd_T25 t282 x52_1).f0))) (fun _ hk => hk.2) (.int .u64 ((rd_T25 t282 x52_1).f1))) (fun _ hk => hk.2) (.int .u64 ((rd_T25 t282 x52_1).f2))) (fun _ h_ => h_.1))) hb); have n2_ := Aside0.mk (blk_below (g := gb278) (o := .cells #[.int .i64 a1_0, .int .u64 a1_1, .int .u64 a1_2] 25 (0, 0)) (by (with_reducible repeat (first | refine blk_drewN ?_ _ | refine blk_drew ?_ | refine blk_alloc ?_ _)); refine blk_far ?_ NB278_290.out _; (with_reducible repeat (first | refine blk_drewN ?_ _ | refine blk_drew ?_ | refine blk_alloc ?_ _)); refine blk_far ?_ NB278_290.out _; (with_reducible repeat (first | refine blk_drewN ?_ _ | refine blk_drew ?_ | refine blk_alloc ?_ _)); refine blk_far ?_ NB278_290.out _; (with_reducible repeat (first | refine blk_drewN ?_ _ | refine blk_drew ?_ | refine blk_alloc ?_ _)); exact BK278.out) hb); have n3_ := Aside0.mk (blk_below (g := gb290) (o := .cells #[.int .i64 ((rd_T25 t282 x52_1).f0), .int .u64 ((rd_T25 t282 x52_1).f1), .int .u64 ((rd_T25 t282 x52_1).f2)] 25 (0, 0)) (by (with_reducible repeat (first | refine blk_drewN ?_ _ | refine blk_drew ?_ | refine blk_alloc ?_ _)); refine blk_put (cs := #[.int .i64 ((rd_T25 t282 x52_1).f0), .int .u64 ((rd_T25 t282 x52_1).f1), .int .u64 0]) ?_ 2 _ rfl; (with_reducible repeat (first | refine blk_drewN ?_ _ | refine blk_drew ?_ | refine blk_alloc ?_ _)); refine blk_put (cs := #[.int .i64 ((rd_T25 t282 x52_1).f0), .int .u64 0, .int .u64 0]) ?_ 1 _ rfl; (with_reducible repeat (first | refine blk_drewN ?_ _ | refine blk_drew ?_ | refine blk_alloc ?_ _)); refine blk_put (cs := #[.int .i64 0, .int .u64 0, .int .u64 0]) ?_ 0 _ rfl; (with_reducible repeat (first | refine blk_drewN ?_ _ | refine blk_drew ?_ | refine blk_alloc ?_ _)); exact BK290.out) hb); have n4_ := Aside0.mk (below_step (by repeat (first | (with_reducible first | exact HB.out | apply below_alloc | apply pw_below_drewN | apply below_drew1 | refine below_set ?_ GE278.out | refine below_set ?_ GE290.out) | exact HB.out)) hb); clear HO_5; clear HO_50; clear BK278; clear BK290; clear HB; have HO_5 := n0_; have HO_50 := n1_; have BK278 := n2_; have BK290 := n3_; have HB := n4_; clear n0_ n1_ n2_ n3_ n4_; (try clear hb); (try clear hb2); (try clear hk); (try clear hi); have hcz85_0 : w84.cell? ⟨gb290, 0, none⟩ = some (.int .i64 ((rd_T25 t282 x52_1).f0)) := (blk_cell BK290.out 0).trans rfl; have hcz85_1 : w84.cell? ⟨gb290, 1, none⟩ = some (.int .u64 ((rd_T25 t282 x52_1).f1)) := (blk_cell BK290.out 1).trans rfl; have hcz85_2 : w84.cell? ⟨gb290, 2, none⟩ = some (.int .u64 ((rd_T25 t282 x52_1).f2)) := (blk_cell BK290.out 2).trans rfl; have hfz85_0 := blk_frozen BK290.out 0; have hfz85_1 := blk_frozen BK290.out 1; have hfz85_2 := blk_frozen BK290.out 2; have hcz86_0 : w84.cell? ⟨gb278, 0, none⟩ = some (.int .i64 a1_0) := (blk_cell BK278.out 0).trans rfl; have hcz86_1 : w84.cell? ⟨gb278, 1, none⟩ = some (.int .u64 a1_1) := (blk_cell BK278.out 1).trans rfl; have hcz86_2 : w84.cell? ⟨gb278, 2, none⟩ = some (.int .u64 a1_2) := (blk_cell BK278.out 2).trans rfl; have hfz86_0 := blk_frozen BK278.out 0; have hfz86_1 := blk_frozen BK278.out 1; have hfz86_2 := blk_frozen BK278.out 2)))
                              go_meet
                              case rel => exact ⟨_, (false), (by first | rfl | (simp; done) | (simp [*]; done)), H', ⟨by have := HK1.out; first | omega | exact Nat.le_refl _⟩, ⟨by (with_reducible repeat (first | apply Kd.V_alloc | apply Kd.V_drewN | apply Kd.V_drew)); exact HO_5.out⟩, ⟨by (with_reducible repeat (first | apply Kd.V_alloc | apply Kd.V_drewN | apply Kd.V_drew)); exact HO_50.out⟩, ⟨by (with_reducible repeat (first | refine blk_drewN ?_ _ | refine blk_drew ?_ | refine blk_alloc ?_ _)); exact BK278.out⟩, ⟨by (with_reducible repeat (first | refine blk_drewN ?_ _ | refine blk_drew ?_ | refine blk_alloc ?_ _)); exact BK290.out⟩, ⟨by repeat (first | (with_reducible first | exact HB.out | apply below_alloc | apply pw_below_drewN | apply below_drew1 | refine below_set ?_ GE278.out | refine below_set ?_ GE290.out) | exact HB.out)⟩⟩
                case rest =>
                  clear HC18
                  try clear c1
                  try clear c2
                  try clear p2
                  try clear q2
                  try clear hx2
                  try clear c3
                  try clear c4
                  try clear c5
                  try clear c6
                  try clear p6
                  try clear c7
                  try clear c8
                  try clear c8b0
                  try clear c8b1
                  try clear c14
                  try clear c14b0
                  try clear c15
                  try clear c15b0
                  try clear c16
                  try clear c16b0
                  try clear c17
                  try clear c17b0
                  try clear c17b1
                  try clear c20
                  try clear c24
                  try clear c25
                  try clear c25b0
                  try clear c25b1
                  try clear c26
                  try clear c26b0
                  try clear c26b1
                  try clear c27
                  try clear c27b0
                  try clear c27b1
                  try clear c28
                  try clear c28b0
                  try clear c28b1
                  try clear p28
                  try clear q28
                  try clear hx28
                  try clear c29
                  try clear c35
                  try clear c35b0
                  try clear c35b1
                  try clear c36
                  try clear c42
                  try clear c48
                  try clear c48b0
                  try clear c48b1
                  try clear c49
                  try clear c49b0
                  try clear c49b1
                  try clear c50
                  try clear c50b0
                  try clear c50b1
                  try clear c51
                  try clear c51b0
                  try clear c51b1
                  try clear c52
                  try clear c58
                  try clear c58b0
                  try clear c58b1
                  try clear c59
                  try clear p64
                  try clear c65
                  try clear c71
                  try clear c71b0
                  try clear c71b1
                  try clear c72
                  try clear c72b0
                  try clear c72b1
                  try clear c73
                  try clear c73b0
                  try clear c73b1
                  try clear c74
                  try clear c74b0
                  try clear c74b1
                  try clear c75
                  try clear c81
                  try clear hcz11_0
                  try clear hcz11_1
                  try clear hcz11_2
                  try clear hcz21_0
                  try clear hcz21_1
                  try clear hcz21_2
                  try clear hcz22_0
                  try clear hcz22_1
                  try clear hcz22_2
                  try clear hcz30_0
                  try clear hcz30_1
                  try clear hcz30_2
                  try clear hcz31_0
                  try clear hcz31_1
                  try clear hcz31_2
                  try clear hcz33_0
                  try clear hcz33_1
                  try clear hcz33_2
                  try clear hcz34_0
                  try clear hcz34_1
                  try clear hcz34_2
                  try clear hcz37_0
                  try clear hcz37_1
                  try clear hcz37_2
                  try clear hcz38_0
                  try clear hcz38_1
                  try clear hcz38_2
                  try clear hcz40_0
                  try clear hcz40_1
                  try clear hcz40_2
                  try clear hcz41_0
                  try clear hcz41_1
                  try clear hcz41_2
                  try clear hcz43_0
                  try clear hcz43_1
                  try clear hcz43_2
                  try clear hcz44_0
                  try clear hcz44_1
                  try clear hcz44_2
                  try clear hcz46_0
                  try clear hcz46_1
                  try clear hcz46_2
                  try clear hcz47_0
                  try clear hcz47_1
                  try clear hcz47_2
                  try clear hcz53_0
                  try clear hcz53_1
                  try clear hcz53_2
                  try clear hcz54_0
                  try clear hcz54_1
                  try clear hcz54_2
                  try clear hcz56_0
                  try clear hcz56_1
                  try clear hcz56_2
                  try clear hcz57_0
                  try clear hcz57_1
                  try clear hcz57_2
                  try clear hcz60_0
                  try clear hcz60_1
                  try clear hcz60_2
                  try clear hcz61_0
                  try clear hcz61_1
                  try clear hcz61_2
                  try clear hcz63_0
                  try clear hcz63_1
                  try clear hcz63_2
                  try clear hcz64_0
                  try clear hcz64_1
                  try clear hcz64_2
                  try clear hcz66_0
                  try clear hcz66_1
                  try clear hcz66_2
                  try clear hcz67_0
                  try clear hcz67_1
                  try clear hcz67_2
                  try clear hcz69_0
                  try clear hcz69_1
                  try clear hcz69_2
                  try clear hcz70_0
                  try clear hcz70_1
                  try clear hcz70_2
                  try clear hcz76_0
                  try clear hcz76_1
                  try clear hcz76_2
                  try clear hcz77_0
                  try clear hcz77_1
                  try clear hcz77_2
                  try clear hcz79_0
                  try clear hcz79_1
                  try clear hcz79_2
                  try clear hcz80_0
                  try clear hcz80_1
                  try clear hcz80_2
                  try clear hcz82_0
                  try clear hcz82_1
                  try clear hcz82_2
                  try clear hcz83_0
                  try clear hcz83_1
                  try clear hcz83_2
                  try clear hcz85_0
                  try clear hcz85_1
                  try clear hcz85_2
                  try clear hcz86_0
                  try clear hcz86_1
                  try clear hcz86_2
                  try clear hfz11_0
                  try clear hfz11_1
                  try clear hfz11_2
                  try clear hfz21_0
                  try clear hfz21_1
                  try clear hfz21_2
                  try clear hfz22_0
                  try clear hfz22_1
                  try clear hfz22_2
                  try clear hfz30_0
                  try clear hfz30_1
                  try clear hfz30_2
                  try clear hfz31_0
                  try clear hfz31_1
                  try clear hfz31_2
                  try clear hfz33_0
                  try clear hfz33_1
                  try clear hfz33_2
                  try clear hfz34_0
                  try clear hfz34_1
                  try clear hfz34_2
                  try clear hfz37_0
                  try clear hfz37_1
                  try clear hfz37_2
                  try clear hfz38_0
                  try clear hfz38_1
                  try clear hfz38_2
                  try clear hfz40_0
                  try clear hfz40_1
                  try clear hfz40_2
                  try clear hfz41_0
                  try clear hfz41_1
                  try clear hfz41_2
                  try clear hfz43_0
                  try clear hfz43_1
                  try clear hfz43_2
                  try clear hfz44_0
                  try clear hfz44_1
                  try clear hfz44_2
                  try clear hfz46_0
                  try clear hfz46_1
                  try clear hfz46_2
                  try clear hfz47_0
                  try clear hfz47_1
                  try clear hfz47_2
                  try clear hfz53_0
                  try clear hfz53_1
                  try clear hfz53_2
                  try clear hfz54_0
                  try clear hfz54_1
                  try clear hfz54_2
                  try clear hfz56_0
                  try clear hfz56_1
                  try clear hfz56_2
                  try clear hfz57_0
                  try clear hfz57_1
                  try clear hfz57_2
                  try clear hfz60_0
                  try clear hfz60_1
                  try clear hfz60_2
                  try clear hfz61_0
                  try clear hfz61_1
                  try clear hfz61_2
                  try clear hfz63_0
                  try clear hfz63_1
                  try clear hfz63_2
                  try clear hfz64_0
                  try clear hfz64_1
                  try clear hfz64_2
                  try clear hfz66_0
                  try clear hfz66_1
                  try clear hfz66_2
                  try clear hfz67_0
                  try clear hfz67_1
                  try clear hfz67_2
                  try clear hfz69_0
                  try clear hfz69_1
                  try clear hfz69_2
                  try clear hfz70_0
                  try clear hfz70_1
                  try clear hfz70_2
                  try clear hfz76_0
                  try clear hfz76_1
                  try clear hfz76_2
                  try clear hfz77_0
                  try clear hfz77_1
                  try clear hfz77_2
                  try clear hfz79_0
                  try clear hfz79_1
                  try clear hfz79_2
                  try clear hfz80_0
                  try clear hfz80_1
                  try clear hfz80_2
                  try clear hfz82_0
                  try clear hfz82_1
                  try clear hfz82_2
                  try clear hfz83_0
                  try clear hfz83_1
                  try clear hfz83_2
                  try clear hfz85_0
                  try clear hfz85_1
                  try clear hfz85_2
                  try clear hfz86_0
                  try clear hfz86_1
                  try clear hfz86_2
                  try clear hx289_0
                  try clear hx289_1
                  try clear hx289_2
                  try clear p2
                  try clear p289
                  try clear q289
                  obtain ⟨kq, x102_17, rfl, HA, HJ17, HO_5, HO_50, BK278, BK290, HB⟩ := hcut
                  cases kq with
                  | zero => exact absurd HA.out (by simp [manometerlaw09_PointsStays.j1])
                  | succ kj17 =>
                    have H := HA.out
                    clear HA
                    simp only [manometerlaw09_PointsStays.j1] at H
                    by_cases c87 : x102_17 = true
                    · subst c87
                      have H1 : (some false) = some r := by rw [if_pos rfl] at H; exact H
                      clear H
                      have H := H1
                      clear H1
                      obtain rfl := Option.some.inj H
                      exact absurd HT_r.out (by decide)
                    · replace c87 := Bool.eq_false_iff.mpr c87
                      subst c87
                      have H1 : (manometerlaw09_PointsStays.l0 kj17 l0 t282 t285 (wrap64 (x8_1 + 1)) x9_1 t282 (t282.length : Int) (wrap64 (x52_1 + 1)) a1_0 a1_1 a1_2) = some r := by rw [if_neg (show ¬ (false = true) by decide)] at H; exact H
                      clear H
                      have H := H1
                      clear H1
                      have H' := Aside0.mk H
                      clear H
                      go_wp2
                      repeat (go_quiet (fail); try go_wp2)
                      go_roundg kj17
                      case measure => have := HK1.out; have := HJ17.out; omega
                      case rel => exact ⟨((wrap64 (x8_1 + 1))), (x9_1), (wrap64 (x52_1 + 1)), (by first | rfl | (simp; done) | (simp [*]; done)), (by first | rfl | (simp; done) | (simp [*]; done)), (by first | rfl | (simp; done) | (simp [*]; done)), H', ⟨by have := HK1.out; have := HJ17.out; omega⟩, ⟨by (with_reducible repeat (first | apply Kd.V_alloc | apply Kd.V_drewN | apply Kd.V_drew)); exact Kd.V_mono HO_5.out (fun _ hk => hk.1)⟩, ⟨by (with_reducible repeat (first | apply Kd.V_alloc | apply Kd.V_drewN | apply Kd.V_drew)); exact Kd.V_mono HO_50.out (fun _ hk => hk.1)⟩, ⟨by (with_reducible repeat (first | refine blk_drewN ?_ _ | refine blk_drew ?_ | refine blk_alloc ?_ _)); exact BK278.out⟩, ⟨by repeat (first | (with_reducible first | exact HB.out | apply below_alloc | apply pw_below_drewN | apply below_drew1 | refine below_set ?_ GE278.out | refine below_set ?_ GE290.out) | exact HB.out)⟩⟩
              · rw [if_neg c17] at H
                have c17b0 : (((rd_T25 t282 x52_1).f0) == a1_0) = false := beq_eq_false_iff_ne.mpr c17
                have c17b1 : (((rd_T25 t282 x52_1).f0) != a1_0) = true := bne_iff_ne.mpr c17
                have H' := Aside0.mk H
                clear H
                have p289 : 0 ≤ (x52_1 : Int) := of_decide_eq_true (by first | (with_reducible assumption) | assumption)
                have q289 : x52_1 < (t282.length : Int) := of_decide_eq_true (by first | (with_reducible assumption) | assumption)
                obtain ⟨ad289, e289, hx289_0, hx289_1, hx289_2⟩ := at_T25 (Kd.V_reads' HO_50.out).2.2 x52_1 p289 q289
                cases e289
                replace p289 := eq_true p289
                replace q289 := eq_true q289
                go_wp2_with (first | ((with_reducible refine gate_dst (N := 11) rfl ?_); (try (refine gate_guard (by rfl) ?_; dsimp only)); refine box_event ?hg (N := 11) ?hd (cs := #[.int .i64 0, .int .u64 0, .int .u64 0]) (t := 25) ?hr ?_; (case hd => rfl); (case hg => rfl); (case hr => first | (go_simp; done) | (go_simp; rfl)); intro gb290 hg w88 hbox hb; have n0_ := Aside0.mk (Kd.V_below (Kd.V_elderB (by (with_reducible repeat (first | apply Kd.V_alloc | apply Kd.V_drewN | apply Kd.V_drew)); exact HO_5.out) gb290 (Nat.le_of_eq hg.symm)) hb); have n1_ := Aside0.mk (Kd.V_below (Kd.V_elderB (by (with_reducible repeat (first | apply Kd.V_alloc | apply Kd.V_drewN | apply Kd.V_drew)); exact HO_50.out) gb290 (Nat.le_of_eq hg.symm)) hb); have n2_ := Aside0.mk (blk_below (g := gb278) (o := .cells #[.int .i64 a1_0, .int .u64 a1_1, .int .u64 a1_2] 25 (0, 0)) (by (with_reducible repeat (first | refine blk_drewN ?_ _ | refine blk_drew ?_ | refine blk_alloc ?_ _)); exact BK278.out) hb); have n3_ := Aside0.mk (below_step (by repeat (first | (with_reducible first | exact HB.out | apply below_alloc | apply pw_below_drewN | apply below_drew1 | refine below_set ?_ GE278.out) | exact HB.out)) hb); have n4_ := Aside0.mk (hbox); have n5_ := Aside0.mk ((by rw [hg]; exact (below_size (by repeat (first | (with_reducible first | exact HB.out | apply below_alloc | apply pw_below_drewN | apply below_drew1 | refine below_set ?_ GE278.out) | exact HB.out))) : w.heap.size ≤ gb290)); have n6_ := Aside0.mk ((by rw [hg]; exact (below_size (by repeat (first | (with_reducible first | exact HB.out | apply below_alloc | apply pw_below_drewN | apply below_drew1 | refine below_set ?_ GE278.out) | exact HB.out))) : w.heap.size ≤ gb290)); have n7_ := Aside0.mk ((by rw [hg]; exact Nat.ne_of_lt (blk_lt (g := gb278) (o := .cells #[.int .i64 a1_0, .int .u64 a1_1, .int .u64 a1_2] 25 (0, 0)) (by (with_reducible repeat (first | refine blk_drewN ?_ _ | refine blk_drew ?_ | refine blk_alloc ?_ _)); exact BK278.out)) : gb278 ≠ gb290)); have n8_ := Aside0.mk ((by rw [hg]; exact Nat.ne_of_gt (blk_lt (g := gb278) (o := .cells #[.int .i64 a1_0, .int .u64 a1_1, .int .u64 a1_2] 25 (0, 0)) (by (with_reducible repeat (first | refine blk_drewN ?_ _ | refine blk_drew ?_ | refine blk_alloc ?_ _)); exact BK278.out)) : gb290 ≠ gb278)); clear HO_5; clear HO_50; clear BK278; clear HB; have HO_5 := n0_; have HO_50 := n1_; have BK278 := n2_; have HB := n3_; have BK290 := n4_; have GW290 := n5_; have GE290 := n6_; have NB278_290 := n7_; have NB290_278 := n8_; clear n0_ n1_ n2_ n3_ n4_ n5_ n6_ n7_ n8_; clear hb hbox hg; have hnb89 := NB290_278.out; have hnc89 := NB278_290.out; have hcz90_0 : w88.cell? ⟨gb290, 0, none⟩ = some (.int .i64 0) := (blk_cell BK290.out 0).trans rfl; have hcz90_1 : w88.cell? ⟨gb290, 1, none⟩ = some (.int .u64 0) := (blk_cell BK290.out 1).trans rfl; have hcz90_2 : w88.cell? ⟨gb290, 2, none⟩ = some (.int .u64 0) := (blk_cell BK290.out 2).trans rfl; have hfz90_0 := blk_frozen BK290.out 0; have hfz90_1 := blk_frozen BK290.out 1; have hfz90_2 := blk_frozen BK290.out 2; have hcz91_0 : w88.cell? ⟨gb278, 0, none⟩ = some (.int .i64 a1_0) := (blk_cell BK278.out 0).trans rfl; have hcz91_1 : w88.cell? ⟨gb278, 1, none⟩ = some (.int .u64 a1_1) := (blk_cell BK278.out 1).trans rfl; have hcz91_2 : w88.cell? ⟨gb278, 2, none⟩ = some (.int .u64 a1_2) := (blk_cell BK278.out 2).trans rfl; have hfz91_0 := blk_frozen BK278.out 0; have hfz91_1 := blk_frozen BK278.out 1; have hfz91_2 := blk_frozen BK278.out 2))
                repeat (go_quiet (fail); try go_wp2_with (first | ((with_reducible refine gate_dst (N := 11) rfl ?_); (try (refine gate_guard (by rfl) ?_; dsimp only)); refine box_event ?hg (N := 11) ?hd (cs := #[.int .i64 0, .int .u64 0, .int .u64 0]) (t := 25) ?hr ?_; (case hd => rfl); (case hg => rfl); (case hr => first | (go_simp; done) | (go_simp; rfl)); intro gb290 hg w88 hbox hb; have n0_ := Aside0.mk (Kd.V_below (Kd.V_elderB (by (with_reducible repeat (first | apply Kd.V_alloc | apply Kd.V_drewN | apply Kd.V_drew)); exact HO_5.out) gb290 (Nat.le_of_eq hg.symm)) hb); have n1_ := Aside0.mk (Kd.V_below (Kd.V_elderB (by (with_reducible repeat (first | apply Kd.V_alloc | apply Kd.V_drewN | apply Kd.V_drew)); exact HO_50.out) gb290 (Nat.le_of_eq hg.symm)) hb); have n2_ := Aside0.mk (blk_below (g := gb278) (o := .cells #[.int .i64 a1_0, .int .u64 a1_1, .int .u64 a1_2] 25 (0, 0)) (by (with_reducible repeat (first | refine blk_drewN ?_ _ | refine blk_drew ?_ | refine blk_alloc ?_ _)); exact BK278.out) hb); have n3_ := Aside0.mk (below_step (by repeat (first | (with_reducible first | exact HB.out | apply below_alloc | apply pw_below_drewN | apply below_drew1 | refine below_set ?_ GE278.out) | exact HB.out)) hb); have n4_ := Aside0.mk (hbox); have n5_ := Aside0.mk ((by rw [hg]; exact (below_size (by repeat (first | (with_reducible first | exact HB.out | apply below_alloc | apply pw_below_drewN | apply below_drew1 | refine below_set ?_ GE278.out) | exact HB.out))) : w.heap.size ≤ gb290)); have n6_ := Aside0.mk ((by rw [hg]; exact (below_size (by repeat (first | (with_reducible first | exact HB.out | apply below_alloc | apply pw_below_drewN | apply below_drew1 | refine below_set ?_ GE278.out) | exact HB.out))) : w.heap.size ≤ gb290)); have n7_ := Aside0.mk ((by rw [hg]; exact Nat.ne_of_lt (blk_lt (g := gb278) (o := .cells #[.int .i64 a1_0, .int .u64 a1_1, .int .u64 a1_2] 25 (0, 0)) (by (with_reducible repeat (first | refine blk_drewN ?_ _ | refine blk_drew ?_ | refine blk_alloc ?_ _)); exact BK278.out)) : gb278 ≠ gb290)); have n8_ := Aside0.mk ((by rw [hg]; exact Nat.ne_of_gt (blk_lt (g := gb278) (o := .cells #[.int .i64 a1_0, .int .u64 a1_1, .int .u64 a1_2] 25 (0, 0)) (by (with_reducible repeat (first | refine blk_drewN ?_ _ | refine blk_drew ?_ | refine blk_alloc ?_ _)); exact BK278.out)) : gb290 ≠ gb278)); clear HO_5; clear HO_50; clear BK278; clear HB; have HO_5 := n0_; have HO_50 := n1_; have BK278 := n2_; have HB := n3_; have BK290 := n4_; have GW290 := n5_; have GE290 := n6_; have NB278_290 := n7_; have NB290_278 := n8_; clear n0_ n1_ n2_ n3_ n4_ n5_ n6_ n7_ n8_; clear hb hbox hg; have hnb89 := NB290_278.out; have hnc89 := NB278_290.out; have hcz90_0 : w88.cell? ⟨gb290, 0, none⟩ = some (.int .i64 0) := (blk_cell BK290.out 0).trans rfl; have hcz90_1 : w88.cell? ⟨gb290, 1, none⟩ = some (.int .u64 0) := (blk_cell BK290.out 1).trans rfl; have hcz90_2 : w88.cell? ⟨gb290, 2, none⟩ = some (.int .u64 0) := (blk_cell BK290.out 2).trans rfl; have hfz90_0 := blk_frozen BK290.out 0; have hfz90_1 := blk_frozen BK290.out 1; have hfz90_2 := blk_frozen BK290.out 2; have hcz91_0 : w88.cell? ⟨gb278, 0, none⟩ = some (.int .i64 a1_0) := (blk_cell BK278.out 0).trans rfl; have hcz91_1 : w88.cell? ⟨gb278, 1, none⟩ = some (.int .u64 a1_1) := (blk_cell BK278.out 1).trans rfl; have hcz91_2 : w88.cell? ⟨gb278, 2, none⟩ = some (.int .u64 a1_2) := (blk_cell BK278.out 2).trans rfl; have hfz91_0 := blk_frozen BK278.out 0; have hfz91_1 := blk_frozen BK278.out 1; have hfz91_2 := blk_frozen BK278.out 2)))
                go_roundg k1
                case measure => have := HK1.out; omega
                case rel => exact ⟨(x8_1), (wrap64 (x9_1 + 1)), (wrap64 (x52_1 + 1)), (by first | rfl | (simp; done) | (simp [*]; done)), (by first | rfl | (simp; done) | (simp [*]; done)), (by first | rfl | (simp; done) | (simp [*]; done)), H', ⟨by have := HK1.out; omega⟩, ⟨by (with_reducible repeat (first | apply Kd.V_alloc | apply Kd.V_drewN | apply Kd.V_drew)); exact Kd.V_mono (Kd.V_far (p := ⟨gb290, 2, none⟩) (Kd.V_far (p := ⟨gb290, 1, none⟩) (Kd.V_far (p := ⟨gb290, 0, none⟩) (Kd.V_mono HO_5.out (fun k_ hk => (⟨hk, hk.2⟩ : _ ∧ k_ ≠ gb290))) (fun _ hk => hk.2) (.int .i64 ((rd_T25 t282 x52_1).f0))) (fun _ hk => hk.2) (.int .u64 ((rd_T25 t282 x52_1).f1))) (fun _ hk => hk.2) (.int .u64 ((rd_T25 t282 x52_1).f2))) (fun _ hk => hk.1.1)⟩, ⟨by (with_reducible repeat (first | apply Kd.V_alloc | apply Kd.V_drewN | apply Kd.V_drew)); exact Kd.V_mono (Kd.V_far (p := ⟨gb290, 2, none⟩) (Kd.V_far (p := ⟨gb290, 1, none⟩) (Kd.V_far (p := ⟨gb290, 0, none⟩) (Kd.V_mono HO_50.out (fun k_ hk => (⟨hk, hk.2⟩ : _ ∧ k_ ≠ gb290))) (fun _ hk => hk.2) (.int .i64 ((rd_T25 t282 x52_1).f0))) (fun _ hk => hk.2) (.int .u64 ((rd_T25 t282 x52_1).f1))) (fun _ hk => hk.2) (.int .u64 ((rd_T25 t282 x52_1).f2))) (fun _ hk => hk.1.1)⟩, ⟨by (with_reducible repeat (first | refine blk_drewN ?_ _ | refine blk_drew ?_ | refine blk_alloc ?_ _)); refine blk_far ?_ NB278_290.out _; (with_reducible repeat (first | refine blk_drewN ?_ _ | refine blk_drew ?_ | refine blk_alloc ?_ _)); refine blk_far ?_ NB278_290.out _; (with_reducible repeat (first | refine blk_drewN ?_ _ | refine blk_drew ?_ | refine blk_alloc ?_ _)); refine blk_far ?_ NB278_290.out _; (with_reducible repeat (first | refine blk_drewN ?_ _ | refine blk_drew ?_ | refine blk_alloc ?_ _)); exact BK278.out⟩, ⟨by repeat (first | (with_reducible first | exact HB.out | apply below_alloc | apply pw_below_drewN | apply below_drew1 | refine below_set ?_ GE278.out | refine below_set ?_ GE290.out) | exact HB.out)⟩⟩
            · rw [if_neg c14] at H
              have c14b0 : decide (x52_1 < (t282.length : Int)) = false := decide_eq_false c14
              clear c14
              have H' := Aside0.mk H
              clear H
              go_wp2
              repeat (go_quiet (fail); try go_wp2)
              go_loopg [9, 106] k1 (fun kq v9 v106 w' => ∃ (x9_2 : Int) (x106_2 : Int), v9 = .int .i64 x9_2 ∧ v106 = .int .i64 x106_2 ∧ Aside0 (manometerlaw09_PointsStays.l1 kq l0 t282 t285 x8_1 x9_2 l0 (l0.length : Int) x106_2 a1_0 a1_1 a1_2 = some r) ∧ Aside0 (kq ≤ k1) ∧ Aside0 (Kd.V k25 25 w' w.heap.size (fun k_ => k_ ≠ gb278) (.slice Ao13 t282.length co13) t282) ∧ Aside0 (w'.heap[gb278]? = some (.cells #[.int .i64 a1_0, .int .u64 a1_1, .int .u64 a1_2] 25 (0, 0))) ∧ Aside0 (Below w.heap.size w w'))
              case atStart => exact ⟨(x9_1), (0), (by first | rfl | (simp; done) | (simp [*]; done)), (by first | rfl | (simp; done) | (simp [*]; done)), H', ⟨Nat.le_refl _⟩, ⟨by (with_reducible repeat (first | apply Kd.V_alloc | apply Kd.V_drewN | apply Kd.V_drew)); exact HO_5.out⟩, ⟨by (with_reducible repeat (first | refine blk_drewN ?_ _ | refine blk_drew ?_ | refine blk_alloc ?_ _)); exact BK278.out⟩, ⟨by repeat (first | (with_reducible first | exact HB.out | apply below_alloc | apply pw_below_drewN | apply below_drew1 | refine below_set ?_ GE278.out) | exact HB.out)⟩⟩
              case round =>
                clear H'
                try clear c1
                try clear c2
                try clear p2
                try clear q2
                try clear hx2
                try clear c3
                try clear c4
                try clear c5
                try clear c6
                try clear p6
                try clear c7
                try clear c8
                try clear c8b0
                try clear c8b1
                try clear c14
                try clear c14b0
                try clear c15
                try clear c15b0
                try clear c16
                try clear c16b0
                try clear c17
                try clear c17b0
                try clear c17b1
                try clear c20
                try clear c24
                try clear c25
                try clear c25b0
                try clear c25b1
                try clear c26
                try clear c26b0
                try clear c26b1
                try clear c27
                try clear c27b0
                try clear c27b1
                try clear c28
                try clear c28b0
                try clear c28b1
                try clear p28
                try clear q28
                try clear hx28
                try clear c29
                try clear c35
                try clear c35b0
                try clear c35b1
                try clear c36
                try clear c42
                try clear c48
                try clear c48b0
                try clear c48b1
                try clear c49
                try clear c49b0
                try clear c49b1
                try clear c50
                try clear c50b0
                try clear c50b1
                try clear c51
                try clear c51b0
                try clear c51b1
                try clear c52
                try clear c58
                try clear c58b0
                try clear c58b1
                try clear c59
                try clear p64
                try clear c65
                try clear c71
                try clear c71b0
                try clear c71b1
                try clear c72
                try clear c72b0
                try clear c72b1
                try clear c73
                try clear c73b0
                try clear c73b1
                try clear c74
                try clear c74b0
                try clear c74b1
                try clear c75
                try clear c81
                try clear c87
                try clear c89
                try clear hcz11_0
                try clear hcz11_1
                try clear hcz11_2
                try clear hcz21_0
                try clear hcz21_1
                try clear hcz21_2
                try clear hcz22_0
                try clear hcz22_1
                try clear hcz22_2
                try clear hcz30_0
                try clear hcz30_1
                try clear hcz30_2
                try clear hcz31_0
                try clear hcz31_1
                try clear hcz31_2
                try clear hcz33_0
                try clear hcz33_1
                try clear hcz33_2
                try clear hcz34_0
                try clear hcz34_1
                try clear hcz34_2
                try clear hcz37_0
                try clear hcz37_1
                try clear hcz37_2
                try clear hcz38_0
                try clear hcz38_1
                try clear hcz38_2
                try clear hcz40_0
                try clear hcz40_1
                try clear hcz40_2
                try clear hcz41_0
                try clear hcz41_1
                try clear hcz41_2
                try clear hcz43_0
                try clear hcz43_1
                try clear hcz43_2
                try clear hcz44_0
                try clear hcz44_1
                try clear hcz44_2
                try clear hcz46_0
                try clear hcz46_1
                try clear hcz46_2
                try clear hcz47_0
                try clear hcz47_1
                try clear hcz47_2
                try clear hcz53_0
                try clear hcz53_1
                try clear hcz53_2
                try clear hcz54_0
                try clear hcz54_1
                try clear hcz54_2
                try clear hcz56_0
                try clear hcz56_1
                try clear hcz56_2
                try clear hcz57_0
                try clear hcz57_1
                try clear hcz57_2
                try clear hcz60_0
                try clear hcz60_1
                try clear hcz60_2
                try clear hcz61_0
                try clear hcz61_1
                try clear hcz61_2
                try clear hcz63_0
                try clear hcz63_1
                try clear hcz63_2
                try clear hcz64_0
                try clear hcz64_1
                try clear hcz64_2
                try clear hcz66_0
                try clear hcz66_1
                try clear hcz66_2
                try clear hcz67_0
                try clear hcz67_1
                try clear hcz67_2
                try clear hcz69_0
                try clear hcz69_1
                try clear hcz69_2
                try clear hcz70_0
                try clear hcz70_1
                try clear hcz70_2
                try clear hcz76_0
                try clear hcz76_1
                try clear hcz76_2
                try clear hcz77_0
                try clear hcz77_1
                try clear hcz77_2
                try clear hcz79_0
                try clear hcz79_1
                try clear hcz79_2
                try clear hcz80_0
                try clear hcz80_1
                try clear hcz80_2
                try clear hcz82_0
                try clear hcz82_1
                try clear hcz82_2
                try clear hcz83_0
                try clear hcz83_1
                try clear hcz83_2
                try clear hcz85_0
                try clear hcz85_1
                try clear hcz85_2
                try clear hcz86_0
                try clear hcz86_1
                try clear hcz86_2
                try clear hcz90_0
                try clear hcz90_1
                try clear hcz90_2
                try clear hcz91_0
                try clear hcz91_1
                try clear hcz91_2
                try clear hfz11_0
                try clear hfz11_1
                try clear hfz11_2
                try clear hfz21_0
                try clear hfz21_1
                try clear hfz21_2
                try clear hfz22_0
                try clear hfz22_1
                try clear hfz22_2
                try clear hfz30_0
                try clear hfz30_1
                try clear hfz30_2
                try clear hfz31_0
                try clear hfz31_1
                try clear hfz31_2
                try clear hfz33_0
                try clear hfz33_1
                try clear hfz33_2
                try clear hfz34_0
                try clear hfz34_1
                try clear hfz34_2
                try clear hfz37_0
                try clear hfz37_1
                try clear hfz37_2
                try clear hfz38_0
                try clear hfz38_1
                try clear hfz38_2
                try clear hfz40_0
                try clear hfz40_1
                try clear hfz40_2
                try clear hfz41_0
                try clear hfz41_1
                try clear hfz41_2
                try clear hfz43_0
                try clear hfz43_1
                try clear hfz43_2
                try clear hfz44_0
                try clear hfz44_1
                try clear hfz44_2
                try clear hfz46_0
                try clear hfz46_1
                try clear hfz46_2
                try clear hfz47_0
                try clear hfz47_1
                try clear hfz47_2
                try clear hfz53_0
                try clear hfz53_1
                try clear hfz53_2
                try clear hfz54_0
                try clear hfz54_1
                try clear hfz54_2
                try clear hfz56_0
                try clear hfz56_1
                try clear hfz56_2
                try clear hfz57_0
                try clear hfz57_1
                try clear hfz57_2
                try clear hfz60_0
                try clear hfz60_1
                try clear hfz60_2
                try clear hfz61_0
                try clear hfz61_1
                try clear hfz61_2
                try clear hfz63_0
                try clear hfz63_1
                try clear hfz63_2
                try clear hfz64_0
                try clear hfz64_1
                try clear hfz64_2
                try clear hfz66_0
                try clear hfz66_1
                try clear hfz66_2
                try clear hfz67_0
                try clear hfz67_1
                try clear hfz67_2
                try clear hfz69_0
                try clear hfz69_1
                try clear hfz69_2
                try clear hfz70_0
                try clear hfz70_1
                try clear hfz70_2
                try clear hfz76_0
                try clear hfz76_1
                try clear hfz76_2
                try clear hfz77_0
                try clear hfz77_1
                try clear hfz77_2
                try clear hfz79_0
                try clear hfz79_1
                try clear hfz79_2
                try clear hfz80_0
                try clear hfz80_1
                try clear hfz80_2
                try clear hfz82_0
                try clear hfz82_1
                try clear hfz82_2
                try clear hfz83_0
                try clear hfz83_1
                try clear hfz83_2
                try clear hfz85_0
                try clear hfz85_1
                try clear hfz85_2
                try clear hfz86_0
                try clear hfz86_1
                try clear hfz86_2
                try clear hfz90_0
                try clear hfz90_1
                try clear hfz90_2
                try clear hfz91_0
                try clear hfz91_1
                try clear hfz91_2
                try clear hx289_0
                try clear hx289_1
                try clear hx289_2
                try clear p2
                try clear p28
                try clear p289
                try clear p6
                try clear p64
                try clear q2
                try clear q28
                try clear q289
                obtain ⟨x9_2, x106_2, rfl, rfl, HA, HK2, HO_5, BK278, HB⟩ := hrel
                cases gk with
                | zero => exact absurd HA.out (by simp [manometerlaw09_PointsStays.l1])
                | succ k2 =>
                  have H := HA.out
                  clear HA
                  simp only [manometerlaw09_PointsStays.l1] at H
                  by_cases c92 : x106_2 < (l0.length : Int)
                  · rw [if_pos c92] at H
                    have c92b0 : decide (x106_2 < (l0.length : Int)) = true := decide_eq_true c92
                    clear c92
                    by_cases c93 : 0 ≤ x106_2
                    rotate_left
                    · rw [if_neg c93] at H
                      exact absurd H (by simp)
                    rw [if_pos c93] at H
                    have c93b0 : decide (0 ≤ x106_2) = true := decide_eq_true c93
                    clear c93
                    by_cases c94 : x106_2 < (l0.length : Int)
                    rotate_left
                    · rw [if_neg c94] at H
                      exact absurd H (by simp)
                    rw [if_pos c94] at H
                    have c94b0 : decide (x106_2 < (l0.length : Int)) = true := decide_eq_true c94
                    clear c94
                    by_cases c95 : ((rd_T25 l0 x106_2).f0) = a1_0
                    · rw [if_pos c95] at H
                      have c95b0 : (((rd_T25 l0 x106_2).f0) == a1_0) = true := beq_iff_eq.mpr c95
                      have c95b1 : (((rd_T25 l0 x106_2).f0) != a1_0) = false := bne_eq_false_iff_eq.mpr c95
                      clear c95
                      have H' := Aside0.mk H
                      clear H
                      have p292 : 0 ≤ (x106_2 : Int) := of_decide_eq_true (by first | (with_reducible assumption) | assumption)
                      have q292 : x106_2 < (l0.length : Int) := of_decide_eq_true (by first | (with_reducible assumption) | assumption)
                      obtain ⟨ad292, e292, hx292_0, hx292_1, hx292_2⟩ := at_T25 HR0.out x106_2 p292 q292
                      cases e292
                      replace hx292_0 := (HB.out.cell (World.block_lt_of_cell? w _ hx292_0)).trans hx292_0
                      replace hx292_1 := (HB.out.cell (World.block_lt_of_cell? w _ hx292_1)).trans hx292_1
                      replace hx292_2 := (HB.out.cell (World.block_lt_of_cell? w _ hx292_2)).trans hx292_2
                      replace p292 := eq_true p292
                      replace q292 := eq_true q292
                      go_wp2_with (first | ((with_reducible refine gate_dst (N := 13) rfl ?_); (try (refine gate_guard (by rfl) ?_; dsimp only)); refine box_event ?hg (N := 13) ?hd (cs := #[.int .i64 0, .int .u64 0, .int .u64 0]) (t := 25) ?hr ?_; (case hd => rfl); (case hg => rfl); (case hr => first | (go_simp; done) | (go_simp; rfl)); intro gb293 hg w96 hbox hb; have n0_ := Aside0.mk (Kd.V_below (Kd.V_elderB (by (with_reducible repeat (first | apply Kd.V_alloc | apply Kd.V_drewN | apply Kd.V_drew)); exact HO_5.out) gb293 (Nat.le_of_eq hg.symm)) hb); have n1_ := Aside0.mk (blk_below (g := gb278) (o := .cells #[.int .i64 a1_0, .int .u64 a1_1, .int .u64 a1_2] 25 (0, 0)) (by (with_reducible repeat (first | refine blk_drewN ?_ _ | refine blk_drew ?_ | refine blk_alloc ?_ _)); exact BK278.out) hb); have n2_ := Aside0.mk (below_step (by repeat (first | (with_reducible first | exact HB.out | apply below_alloc | apply pw_below_drewN | apply below_drew1 | refine below_set ?_ GE278.out) | exact HB.out)) hb); have n3_ := Aside0.mk (hbox); have n4_ := Aside0.mk ((by rw [hg]; exact (below_size (by repeat (first | (with_reducible first | exact HB.out | apply below_alloc | apply pw_below_drewN | apply below_drew1 | refine below_set ?_ GE278.out) | exact HB.out))) : w.heap.size ≤ gb293)); have n5_ := Aside0.mk ((by rw [hg]; exact (below_size (by repeat (first | (with_reducible first | exact HB.out | apply below_alloc | apply pw_below_drewN | apply below_drew1 | refine below_set ?_ GE278.out) | exact HB.out))) : w.heap.size ≤ gb293)); have n6_ := Aside0.mk ((by rw [hg]; exact Nat.ne_of_lt (blk_lt (g := gb278) (o := .cells #[.int .i64 a1_0, .int .u64 a1_1, .int .u64 a1_2] 25 (0, 0)) (by (with_reducible repeat (first | refine blk_drewN ?_ _ | refine blk_drew ?_ | refine blk_alloc ?_ _)); exact BK278.out)) : gb278 ≠ gb293)); have n7_ := Aside0.mk ((by rw [hg]; exact Nat.ne_of_gt (blk_lt (g := gb278) (o := .cells #[.int .i64 a1_0, .int .u64 a1_1, .int .u64 a1_2] 25 (0, 0)) (by (with_reducible repeat (first | refine blk_drewN ?_ _ | refine blk_drew ?_ | refine blk_alloc ?_ _)); exact BK278.out)) : gb293 ≠ gb278)); clear HO_5; clear BK278; clear HB; have HO_5 := n0_; have BK278 := n1_; have HB := n2_; have BK293 := n3_; have GW293 := n4_; have GE293 := n5_; have NB278_293 := n6_; have NB293_278 := n7_; clear n0_ n1_ n2_ n3_ n4_ n5_ n6_ n7_; clear hb hbox hg; have hnb97 := NB293_278.out; have hnc97 := NB278_293.out; have hcz98_0 : w96.cell? ⟨gb293, 0, none⟩ = some (.int .i64 0) := (blk_cell BK293.out 0).trans rfl; have hcz98_1 : w96.cell? ⟨gb293, 1, none⟩ = some (.int .u64 0) := (blk_cell BK293.out 1).trans rfl; have hcz98_2 : w96.cell? ⟨gb293, 2, none⟩ = some (.int .u64 0) := (blk_cell BK293.out 2).trans rfl; have hfz98_0 := blk_frozen BK293.out 0; have hfz98_1 := blk_frozen BK293.out 1; have hfz98_2 := blk_frozen BK293.out 2; have hcz99_0 : w96.cell? ⟨gb278, 0, none⟩ = some (.int .i64 a1_0) := (blk_cell BK278.out 0).trans rfl; have hcz99_1 : w96.cell? ⟨gb278, 1, none⟩ = some (.int .u64 a1_1) := (blk_cell BK278.out 1).trans rfl; have hcz99_2 : w96.cell? ⟨gb278, 2, none⟩ = some (.int .u64 a1_2) := (blk_cell BK278.out 2).trans rfl; have hfz99_0 := blk_frozen BK278.out 0; have hfz99_1 := blk_frozen BK278.out 1; have hfz99_2 := blk_frozen BK278.out 2))
                      repeat (go_quiet (fail); try go_wp2_with (first | ((with_reducible refine gate_dst (N := 13) rfl ?_); (try (refine gate_guard (by rfl) ?_; dsimp only)); refine box_event ?hg (N := 13) ?hd (cs := #[.int .i64 0, .int .u64 0, .int .u64 0]) (t := 25) ?hr ?_; (case hd => rfl); (case hg => rfl); (case hr => first | (go_simp; done) | (go_simp; rfl)); intro gb293 hg w96 hbox hb; have n0_ := Aside0.mk (Kd.V_below (Kd.V_elderB (by (with_reducible repeat (first | apply Kd.V_alloc | apply Kd.V_drewN | apply Kd.V_drew)); exact HO_5.out) gb293 (Nat.le_of_eq hg.symm)) hb); have n1_ := Aside0.mk (blk_below (g := gb278) (o := .cells #[.int .i64 a1_0, .int .u64 a1_1, .int .u64 a1_2] 25 (0, 0)) (by (with_reducible repeat (first | refine blk_drewN ?_ _ | refine blk_drew ?_ | refine blk_alloc ?_ _)); exact BK278.out) hb); have n2_ := Aside0.mk (below_step (by repeat (first | (with_reducible first | exact HB.out | apply below_alloc | apply pw_below_drewN | apply below_drew1 | refine below_set ?_ GE278.out) | exact HB.out)) hb); have n3_ := Aside0.mk (hbox); have n4_ := Aside0.mk ((by rw [hg]; exact (below_size (by repeat (first | (with_reducible first | exact HB.out | apply below_alloc | apply pw_below_drewN | apply below_drew1 | refine below_set ?_ GE278.out) | exact HB.out))) : w.heap.size ≤ gb293)); have n5_ := Aside0.mk ((by rw [hg]; exact (below_size (by repeat (first | (with_reducible first | exact HB.out | apply below_alloc | apply pw_below_drewN | apply below_drew1 | refine below_set ?_ GE278.out) | exact HB.out))) : w.heap.size ≤ gb293)); have n6_ := Aside0.mk ((by rw [hg]; exact Nat.ne_of_lt (blk_lt (g := gb278) (o := .cells #[.int .i64 a1_0, .int .u64 a1_1, .int .u64 a1_2] 25 (0, 0)) (by (with_reducible repeat (first | refine blk_drewN ?_ _ | refine blk_drew ?_ | refine blk_alloc ?_ _)); exact BK278.out)) : gb278 ≠ gb293)); have n7_ := Aside0.mk ((by rw [hg]; exact Nat.ne_of_gt (blk_lt (g := gb278) (o := .cells #[.int .i64 a1_0, .int .u64 a1_1, .int .u64 a1_2] 25 (0, 0)) (by (with_reducible repeat (first | refine blk_drewN ?_ _ | refine blk_drew ?_ | refine blk_alloc ?_ _)); exact BK278.out)) : gb293 ≠ gb278)); clear HO_5; clear BK278; clear HB; have HO_5 := n0_; have BK278 := n1_; have HB := n2_; have BK293 := n3_; have GW293 := n4_; have GE293 := n5_; have NB278_293 := n6_; have NB293_278 := n7_; clear n0_ n1_ n2_ n3_ n4_ n5_ n6_ n7_; clear hb hbox hg; have hnb97 := NB293_278.out; have hnc97 := NB278_293.out; have hcz98_0 : w96.cell? ⟨gb293, 0, none⟩ = some (.int .i64 0) := (blk_cell BK293.out 0).trans rfl; have hcz98_1 : w96.cell? ⟨gb293, 1, none⟩ = some (.int .u64 0) := (blk_cell BK293.out 1).trans rfl; have hcz98_2 : w96.cell? ⟨gb293, 2, none⟩ = some (.int .u64 0) := (blk_cell BK293.out 2).trans rfl; have hfz98_0 := blk_frozen BK293.out 0; have hfz98_1 := blk_frozen BK293.out 1; have hfz98_2 := blk_frozen BK293.out 2; have hcz99_0 : w96.cell? ⟨gb278, 0, none⟩ = some (.int .i64 a1_0) := (blk_cell BK278.out 0).trans rfl; have hcz99_1 : w96.cell? ⟨gb278, 1, none⟩ = some (.int .u64 a1_1) := (blk_cell BK278.out 1).trans rfl; have hcz99_2 : w96.cell? ⟨gb278, 2, none⟩ = some (.int .u64 a1_2) := (blk_cell BK278.out 2).trans rfl; have hfz99_0 := blk_frozen BK278.out 0; have hfz99_1 := blk_frozen BK278.out 1; have hfz99_2 := blk_frozen BK278.out 2)))
                      go_roundg k2
                      case measure => have := HK1.out; have := HK2.out; omega
                      case rel => exact ⟨(x9_2), (wrap64 (x106_2 + 1)), (by first | rfl | (simp; done) | (simp [*]; done)), (by first | rfl | (simp; done) | (simp [*]; done)), H', ⟨by have := HK1.out; have := HK2.out; omega⟩, ⟨by (with_reducible repeat (first | apply Kd.V_alloc | apply Kd.V_drewN | apply Kd.V_drew)); exact Kd.V_mono (Kd.V_far (p := ⟨gb293, 2, none⟩) (Kd.V_far (p := ⟨gb293, 1, none⟩) (Kd.V_far (p := ⟨gb293, 0, none⟩) (Kd.V_mono HO_5.out (fun k_ hk => (⟨hk, hk.2⟩ : _ ∧ k_ ≠ gb293))) (fun _ hk => hk.2) (.int .i64 ((rd_T25 l0 x106_2).f0))) (fun _ hk => hk.2) (.int .u64 ((rd_T25 l0 x106_2).f1))) (fun _ hk => hk.2) (.int .u64 ((rd_T25 l0 x106_2).f2))) (fun _ hk => hk.1.1)⟩, ⟨by (with_reducible repeat (first | refine blk_drewN ?_ _ | refine blk_drew ?_ | refine blk_alloc ?_ _)); refine blk_far ?_ NB278_293.out _; (with_reducible repeat (first | refine blk_drewN ?_ _ | refine blk_drew ?_ | refine blk_alloc ?_ _)); refine blk_far ?_ NB278_293.out _; (with_reducible repeat (first | refine blk_drewN ?_ _ | refine blk_drew ?_ | refine blk_alloc ?_ _)); refine blk_far ?_ NB278_293.out _; (with_reducible repeat (first | refine blk_drewN ?_ _ | refine blk_drew ?_ | refine blk_alloc ?_ _)); exact BK278.out⟩, ⟨by repeat (first | (with_reducible first | exact HB.out | apply below_alloc | apply pw_below_drewN | apply below_drew1 | refine below_set ?_ GE278.out | refine below_set ?_ GE293.out) | exact HB.out)⟩⟩
                    · rw [if_neg c95] at H
                      have c95b0 : (((rd_T25 l0 x106_2).f0) == a1_0) = false := beq_eq_false_iff_ne.mpr c95
                      have c95b1 : (((rd_T25 l0 x106_2).f0) != a1_0) = true := bne_iff_ne.mpr c95
                      replace H := Option.bind_eq_some_iff.mp H
                      obtain ⟨⟨t294, t295⟩, A1000, H⟩ := H
                      replace H : (if t295 = true then (if t294 < 0 then (manometerlaw09_PointsStays.j3 k2 l0 t282 t285 x8_1 (wrap64 (x9_2 - 1)) l0 (l0.length : Int) x106_2 true a1_0 a1_1 a1_2) else (if t294 ≥ (t282.length : Int) then (manometerlaw09_PointsStays.j3 k2 l0 t282 t285 x8_1 (wrap64 (x9_2 - 1)) l0 (l0.length : Int) x106_2 true a1_0 a1_1 a1_2) else (if 0 ≤ t294 then (if t294 < (t282.length : Int) then (if ((rd_T25 t282 t294).f0) = ((rd_T25 l0 x106_2).f0) then (if ((rd_T25 t282 t294).f1) = ((rd_T25 l0 x106_2).f1) then (if ((rd_T25 t282 t294).f2) = ((rd_T25 l0 x106_2).f2) then (manometerlaw09_PointsStays.j3 k2 l0 t282 t285 x8_1 (wrap64 (x9_2 - 1)) l0 (l0.length : Int) x106_2 false a1_0 a1_1 a1_2) else (manometerlaw09_PointsStays.j3 k2 l0 t282 t285 x8_1 (wrap64 (x9_2 - 1)) l0 (l0.length : Int) x106_2 true a1_0 a1_1 a1_2)) else (manometerlaw09_PointsStays.j3 k2 l0 t282 t285 x8_1 (wrap64 (x9_2 - 1)) l0 (l0.length : Int) x106_2 true a1_0 a1_1 a1_2)) else (manometerlaw09_PointsStays.j3 k2 l0 t282 t285 x8_1 (wrap64 (x9_2 - 1)) l0 (l0.length : Int) x106_2 true a1_0 a1_1 a1_2)) else (none)) else (none)))) else (manometerlaw09_PointsStays.j3 k2 l0 t282 t285 x8_1 (wrap64 (x9_2 - 1)) l0 (l0.length : Int) x106_2 true a1_0 a1_1 a1_2)) = some r := H
                      have A100 := Aside0.mk A1000
                      clear A1000
                      have HC101 := Aside0.mk H
                      clear H
                      have p292 : 0 ≤ (x106_2 : Int) := of_decide_eq_true (by first | (with_reducible assumption) | assumption)
                      have q292 : x106_2 < (l0.length : Int) := of_decide_eq_true (by first | (with_reducible assumption) | assumption)
                      obtain ⟨ad292, e292, hx292_0, hx292_1, hx292_2⟩ := at_T25 HR0.out x106_2 p292 q292
                      cases e292
                      replace hx292_0 := (HB.out.cell (World.block_lt_of_cell? w _ hx292_0)).trans hx292_0
                      replace hx292_1 := (HB.out.cell (World.block_lt_of_cell? w _ hx292_1)).trans hx292_1
                      replace hx292_2 := (HB.out.cell (World.block_lt_of_cell? w _ hx292_2)).trans hx292_2
                      replace p292 := eq_true p292
                      replace q292 := eq_true q292
                      go_upto_region 22 with (first | ((with_reducible refine gate_dst (N := 13) rfl ?_); (try (refine gate_guard (by rfl) ?_; dsimp only)); refine box_event ?hg (N := 13) ?hd (cs := #[.int .i64 0, .int .u64 0, .int .u64 0]) (t := 25) ?hr ?_; (case hd => rfl); (case hg => rfl); (case hr => first | (go_simp; done) | (go_simp; rfl)); intro gb293 hg w102 hbox hb; have n0_ := Aside0.mk (Kd.V_below (Kd.V_elderB (by (with_reducible repeat (first | apply Kd.V_alloc | apply Kd.V_drewN | apply Kd.V_drew)); exact HO_5.out) gb293 (Nat.le_of_eq hg.symm)) hb); have n1_ := Aside0.mk (blk_below (g := gb278) (o := .cells #[.int .i64 a1_0, .int .u64 a1_1, .int .u64 a1_2] 25 (0, 0)) (by (with_reducible repeat (first | refine blk_drewN ?_ _ | refine blk_drew ?_ | refine blk_alloc ?_ _)); exact BK278.out) hb); have n2_ := Aside0.mk (below_step (by repeat (first | (with_reducible first | exact HB.out | apply below_alloc | apply pw_below_drewN | apply below_drew1 | refine below_set ?_ GE278.out) | exact HB.out)) hb); have n3_ := Aside0.mk (hbox); have n4_ := Aside0.mk ((by rw [hg]; exact (below_size (by repeat (first | (with_reducible first | exact HB.out | apply below_alloc | apply pw_below_drewN | apply below_drew1 | refine below_set ?_ GE278.out) | exact HB.out))) : w.heap.size ≤ gb293)); have n5_ := Aside0.mk ((by rw [hg]; exact (below_size (by repeat (first | (with_reducible first | exact HB.out | apply below_alloc | apply pw_below_drewN | apply below_drew1 | refine below_set ?_ GE278.out) | exact HB.out))) : w.heap.size ≤ gb293)); have n6_ := Aside0.mk ((by rw [hg]; exact Nat.ne_of_lt (blk_lt (g := gb278) (o := .cells #[.int .i64 a1_0, .int .u64 a1_1, .int .u64 a1_2] 25 (0, 0)) (by (with_reducible repeat (first | refine blk_drewN ?_ _ | refine blk_drew ?_ | refine blk_alloc ?_ _)); exact BK278.out)) : gb278 ≠ gb293)); have n7_ := Aside0.mk ((by rw [hg]; exact Nat.ne_of_gt (blk_lt (g := gb278) (o := .cells #[.int .i64 a1_0, .int .u64 a1_1, .int .u64 a1_2] 25 (0, 0)) (by (with_reducible repeat (first | refine blk_drewN ?_ _ | refine blk_drew ?_ | refine blk_alloc ?_ _)); exact BK278.out)) : gb293 ≠ gb278)); clear HO_5; clear BK278; clear HB; have HO_5 := n0_; have BK278 := n1_; have HB := n2_; have BK293 := n3_; have GW293 := n4_; have GE293 := n5_; have NB278_293 := n6_; have NB293_278 := n7_; clear n0_ n1_ n2_ n3_ n4_ n5_ n6_ n7_; clear hb hbox hg; have hnb103 := NB293_278.out; have hnc103 := NB278_293.out; have hcz104_0 : w102.cell? ⟨gb293, 0, none⟩ = some (.int .i64 0) := (blk_cell BK293.out 0).trans rfl; have hcz104_1 : w102.cell? ⟨gb293, 1, none⟩ = some (.int .u64 0) := (blk_cell BK293.out 1).trans rfl; have hcz104_2 : w102.cell? ⟨gb293, 2, none⟩ = some (.int .u64 0) := (blk_cell BK293.out 2).trans rfl; have hfz104_0 := blk_frozen BK293.out 0; have hfz104_1 := blk_frozen BK293.out 1; have hfz104_2 := blk_frozen BK293.out 2; have hcz105_0 : w102.cell? ⟨gb278, 0, none⟩ = some (.int .i64 a1_0) := (blk_cell BK278.out 0).trans rfl; have hcz105_1 : w102.cell? ⟨gb278, 1, none⟩ = some (.int .u64 a1_1) := (blk_cell BK278.out 1).trans rfl; have hcz105_2 : w102.cell? ⟨gb278, 2, none⟩ = some (.int .u64 a1_2) := (blk_cell BK278.out 2).trans rfl; have hfz105_0 := blk_frozen BK278.out 0; have hfz105_1 := blk_frozen BK278.out 1; have hfz105_2 := blk_frozen BK278.out 2) | (go_at_call 18; (with_reducible refine (points_Find.calls _ _ t282 ((rd_T25 l0 x106_2).f0) t294 t295 _ ?side1 ?side2 A100.out).mono ?_); (case side1 => refine (Kd.V_reads' (e := 25) (base := w.heap.size) (ok := fun k_ => (k_ ≠ gb278 ∧ k_ ≠ gb293)) (n := t282.length) (c := co13) ?_).2.2; exact (by (with_reducible repeat (first | apply Kd.V_alloc | apply Kd.V_drewN | apply Kd.V_drew)); exact (Kd.V_mono (Kd.V_far (p := ⟨gb293, 2, none⟩) (Kd.V_far (p := ⟨gb293, 1, none⟩) (Kd.V_far (p := ⟨gb293, 0, none⟩) (Kd.V_mono HO_5.out (fun k_ hk => (⟨hk, hk.2⟩ : _ ∧ k_ ≠ gb293))) (fun _ hk => hk.2) (.int .i64 ((rd_T25 l0 x106_2).f0))) (fun _ hk => hk.2) (.int .u64 ((rd_T25 l0 x106_2).f1))) (fun _ hk => hk.2) (.int .u64 ((rd_T25 l0 x106_2).f2))) (fun _ h_ => h_.1)))); (case side2 => exact (Kd.V_reads' HO_5.out).2.1); rintro e w106 ⟨rfl, hb⟩; have n0_ := Aside0.mk (Kd.V_below (by (with_reducible repeat (first | apply Kd.V_alloc | apply Kd.V_drewN | apply Kd.V_drew)); exact (Kd.V_mono (Kd.V_far (p := ⟨gb293, 2, none⟩) (Kd.V_far (p := ⟨gb293, 1, none⟩) (Kd.V_far (p := ⟨gb293, 0, none⟩) (Kd.V_mono HO_5.out (fun k_ hk => (⟨hk, hk.2⟩ : _ ∧ k_ ≠ gb293))) (fun _ hk => hk.2) (.int .i64 ((rd_T25 l0 x106_2).f0))) (fun _ hk => hk.2) (.int .u64 ((rd_T25 l0 x106_2).f1))) (fun _ hk => hk.2) (.int .u64 ((rd_T25 l0 x106_2).f2))) (fun _ h_ => h_.1))) hb); have n1_ := Aside0.mk (blk_below (g := gb278) (o := .cells #[.int .i64 a1_0, .int .u64 a1_1, .int .u64 a1_2] 25 (0, 0)) (by (with_reducible repeat (first | refine blk_drewN ?_ _ | refine blk_drew ?_ | refine blk_alloc ?_ _)); refine blk_far ?_ NB278_293.out _; (with_reducible repeat (first | refine blk_drewN ?_ _ | refine blk_drew ?_ | refine blk_alloc ?_ _)); refine blk_far ?_ NB278_293.out _; (with_reducible repeat (first | refine blk_drewN ?_ _ | refine blk_drew ?_ | refine blk_alloc ?_ _)); refine blk_far ?_ NB278_293.out _; (with_reducible repeat (first | refine blk_drewN ?_ _ | refine blk_drew ?_ | refine blk_alloc ?_ _)); exact BK278.out) hb); have n2_ := Aside0.mk (blk_below (g := gb293) (o := .cells #[.int .i64 ((rd_T25 l0 x106_2).f0), .int .u64 ((rd_T25 l0 x106_2).f1), .int .u64 ((rd_T25 l0 x106_2).f2)] 25 (0, 0)) (by (with_reducible repeat (first | refine blk_drewN ?_ _ | refine blk_drew ?_ | refine blk_alloc ?_ _)); refine blk_put (cs := #[.int .i64 ((rd_T25 l0 x106_2).f0), .int .u64 ((rd_T25 l0 x106_2).f1), .int .u64 0]) ?_ 2 _ rfl; (with_reducible repeat (first | refine blk_drewN ?_ _ | refine blk_drew ?_ | refine blk_alloc ?_ _)); refine blk_put (cs := #[.int .i64 ((rd_T25 l0 x106_2).f0), .int .u64 0, .int .u64 0]) ?_ 1 _ rfl; (with_reducible repeat (first | refine blk_drewN ?_ _ | refine blk_drew ?_ | refine blk_alloc ?_ _)); refine blk_put (cs := #[.int .i64 0, .int .u64 0, .int .u64 0]) ?_ 0 _ rfl; (with_reducible repeat (first | refine blk_drewN ?_ _ | refine blk_drew ?_ | refine blk_alloc ?_ _)); exact BK293.out) hb); have n3_ := Aside0.mk (below_step (by repeat (first | (with_reducible first | exact HB.out | apply below_alloc | apply pw_below_drewN | apply below_drew1 | refine below_set ?_ GE278.out | refine below_set ?_ GE293.out) | exact HB.out)) hb); clear HO_5; clear BK278; clear BK293; clear HB; have HO_5 := n0_; have BK278 := n1_; have BK293 := n2_; have HB := n3_; clear n0_ n1_ n2_ n3_; (try clear hb); (try clear hb2); (try clear hk); (try clear hi)))
                      repeat (go_quiet (fail); go_upto_region 22 with (first | ((with_reducible refine gate_dst (N := 13) rfl ?_); (try (refine gate_guard (by rfl) ?_; dsimp only)); refine box_event ?hg (N := 13) ?hd (cs := #[.int .i64 0, .int .u64 0, .int .u64 0]) (t := 25) ?hr ?_; (case hd => rfl); (case hg => rfl); (case hr => first | (go_simp; done) | (go_simp; rfl)); intro gb293 hg w102 hbox hb; have n0_ := Aside0.mk (Kd.V_below (Kd.V_elderB (by (with_reducible repeat (first | apply Kd.V_alloc | apply Kd.V_drewN | apply Kd.V_drew)); exact HO_5.out) gb293 (Nat.le_of_eq hg.symm)) hb); have n1_ := Aside0.mk (blk_below (g := gb278) (o := .cells #[.int .i64 a1_0, .int .u64 a1_1, .int .u64 a1_2] 25 (0, 0)) (by (with_reducible repeat (first | refine blk_drewN ?_ _ | refine blk_drew ?_ | refine blk_alloc ?_ _)); exact BK278.out) hb); have n2_ := Aside0.mk (below_step (by repeat (first | (with_reducible first | exact HB.out | apply below_alloc | apply pw_below_drewN | apply below_drew1 | refine below_set ?_ GE278.out) | exact HB.out)) hb); have n3_ := Aside0.mk (hbox); have n4_ := Aside0.mk ((by rw [hg]; exact (below_size (by repeat (first | (with_reducible first | exact HB.out | apply below_alloc | apply pw_below_drewN | apply below_drew1 | refine below_set ?_ GE278.out) | exact HB.out))) : w.heap.size ≤ gb293)); have n5_ := Aside0.mk ((by rw [hg]; exact (below_size (by repeat (first | (with_reducible first | exact HB.out | apply below_alloc | apply pw_below_drewN | apply below_drew1 | refine below_set ?_ GE278.out) | exact HB.out))) : w.heap.size ≤ gb293)); have n6_ := Aside0.mk ((by rw [hg]; exact Nat.ne_of_lt (blk_lt (g := gb278) (o := .cells #[.int .i64 a1_0, .int .u64 a1_1, .int .u64 a1_2] 25 (0, 0)) (by (with_reducible repeat (first | refine blk_drewN ?_ _ | refine blk_drew ?_ | refine blk_alloc ?_ _)); exact BK278.out)) : gb278 ≠ gb293)); have n7_ := Aside0.mk ((by rw [hg]; exact Nat.ne_of_gt (blk_lt (g := gb278) (o := .cells #[.int .i64 a1_0, .int .u64 a1_1, .int .u64 a1_2] 25 (0, 0)) (by (with_reducible repeat (first | refine blk_drewN ?_ _ | refine blk_drew ?_ | refine blk_alloc ?_ _)); exact BK278.out)) : gb293 ≠ gb278)); clear HO_5; clear BK278; clear HB; have HO_5 := n0_; have BK278 := n1_; have HB := n2_; have BK293 := n3_; have GW293 := n4_; have GE293 := n5_; have NB278_293 := n6_; have NB293_278 := n7_; clear n0_ n1_ n2_ n3_ n4_ n5_ n6_ n7_; clear hb hbox hg; have hnb103 := NB293_278.out; have hnc103 := NB278_293.out; have hcz104_0 : w102.cell? ⟨gb293, 0, none⟩ = some (.int .i64 0) := (blk_cell BK293.out 0).trans rfl; have hcz104_1 : w102.cell? ⟨gb293, 1, none⟩ = some (.int .u64 0) := (blk_cell BK293.out 1).trans rfl; have hcz104_2 : w102.cell? ⟨gb293, 2, none⟩ = some (.int .u64 0) := (blk_cell BK293.out 2).trans rfl; have hfz104_0 := blk_frozen BK293.out 0; have hfz104_1 := blk_frozen BK293.out 1; have hfz104_2 := blk_frozen BK293.out 2; have hcz105_0 : w102.cell? ⟨gb278, 0, none⟩ = some (.int .i64 a1_0) := (blk_cell BK278.out 0).trans rfl; have hcz105_1 : w102.cell? ⟨gb278, 1, none⟩ = some (.int .u64 a1_1) := (blk_cell BK278.out 1).trans rfl; have hcz105_2 : w102.cell? ⟨gb278, 2, none⟩ = some (.int .u64 a1_2) := (blk_cell BK278.out 2).trans rfl; have hfz105_0 := blk_frozen BK278.out 0; have hfz105_1 := blk_frozen BK278.out 1; have hfz105_2 := blk_frozen BK278.out 2) | (go_at_call 18; (with_reducible refine (points_Find.calls _ _ t282 ((rd_T25 l0 x106_2).f0) t294 t295 _ ?side1 ?side2 A100.out).mono ?_); (case side1 => refine (Kd.V_reads' (e := 25) (base := w.heap.size) (ok := fun k_ => (k_ ≠ gb278 ∧ k_ ≠ gb293)) (n := t282.length) (c := co13) ?_).2.2; exact (by (with_reducible repeat (first | apply Kd.V_alloc | apply Kd.V_drewN | apply Kd.V_drew)); exact (Kd.V_mono (Kd.V_far (p := ⟨gb293, 2, none⟩) (Kd.V_far (p := ⟨gb293, 1, none⟩) (Kd.V_far (p := ⟨gb293, 0, none⟩) (Kd.V_mono HO_5.out (fun k_ hk => (⟨hk, hk.2⟩ : _ ∧ k_ ≠ gb293))) (fun _ hk => hk.2) (.int .i64 ((rd_T25 l0 x106_2).f0))) (fun _ hk => hk.2) (.int .u64 ((rd_T25 l0 x106_2).f1))) (fun _ hk => hk.2) (.int .u64 ((rd_T25 l0 x106_2).f2))) (fun _ h_ => h_.1)))); (case side2 => exact (Kd.V_reads' HO_5.out).2.1); rintro e w106 ⟨rfl, hb⟩; have n0_ := Aside0.mk (Kd.V_below (by (with_reducible repeat (first | apply Kd.V_alloc | apply Kd.V_drewN | apply Kd.V_drew)); exact (Kd.V_mono (Kd.V_far (p := ⟨gb293, 2, none⟩) (Kd.V_far (p := ⟨gb293, 1, none⟩) (Kd.V_far (p := ⟨gb293, 0, none⟩) (Kd.V_mono HO_5.out (fun k_ hk => (⟨hk, hk.2⟩ : _ ∧ k_ ≠ gb293))) (fun _ hk => hk.2) (.int .i64 ((rd_T25 l0 x106_2).f0))) (fun _ hk => hk.2) (.int .u64 ((rd_T25 l0 x106_2).f1))) (fun _ hk => hk.2) (.int .u64 ((rd_T25 l0 x106_2).f2))) (fun _ h_ => h_.1))) hb); have n1_ := Aside0.mk (blk_below (g := gb278) (o := .cells #[.int .i64 a1_0, .int .u64 a1_1, .int .u64 a1_2] 25 (0, 0)) (by (with_reducible repeat (first | refine blk_drewN ?_ _ | refine blk_drew ?_ | refine blk_alloc ?_ _)); refine blk_far ?_ NB278_293.out _; (with_reducible repeat (first | refine blk_drewN ?_ _ | refine blk_drew ?_ | refine blk_alloc ?_ _)); refine blk_far ?_ NB278_293.out _; (with_reducible repeat (first | refine blk_drewN ?_ _ | refine blk_drew ?_ | refine blk_alloc ?_ _)); refine blk_far ?_ NB278_293.out _; (with_reducible repeat (first | refine blk_drewN ?_ _ | refine blk_drew ?_ | refine blk_alloc ?_ _)); exact BK278.out) hb); have n2_ := Aside0.mk (blk_below (g := gb293) (o := .cells #[.int .i64 ((rd_T25 l0 x106_2).f0), .int .u64 ((rd_T25 l0 x106_2).f1), .int .u64 ((rd_T25 l0 x106_2).f2)] 25 (0, 0)) (by (with_reducible repeat (first | refine blk_drewN ?_ _ | refine blk_drew ?_ | refine blk_alloc ?_ _)); refine blk_put (cs := #[.int .i64 ((rd_T25 l0 x106_2).f0), .int .u64 ((rd_T25 l0 x106_2).f1), .int .u64 0]) ?_ 2 _ rfl; (with_reducible repeat (first | refine blk_drewN ?_ _ | refine blk_drew ?_ | refine blk_alloc ?_ _)); refine blk_put (cs := #[.int .i64 ((rd_T25 l0 x106_2).f0), .int .u64 0, .int .u64 0]) ?_ 1 _ rfl; (with_reducible repeat (first | refine blk_drewN ?_ _ | refine blk_drew ?_ | refine blk_alloc ?_ _)); refine blk_put (cs := #[.int .i64 0, .int .u64 0, .int .u64 0]) ?_ 0 _ rfl; (with_reducible repeat (first | refine blk_drewN ?_ _ | refine blk_drew ?_ | refine blk_alloc ?_ _)); exact BK293.out) hb); have n3_ := Aside0.mk (below_step (by repeat (first | (with_reducible first | exact HB.out | apply below_alloc | apply pw_below_drewN | apply below_drew1 | refine below_set ?_ GE278.out | refine below_set ?_ GE293.out) | exact HB.out)) hb); clear HO_5; clear BK278; clear BK293; clear HB; have HO_5 := n0_; have BK278 := n1_; have BK293 := n2_; have HB := n3_; clear n0_ n1_ n2_ n3_; (try clear hb); (try clear hb2); (try clear hk); (try clear hi))))
                      (try simp only [Act.put, List.setIfInBounds_toArray, List.set_cons_zero, List.set_cons_succ])
                      go_cut [143] (fun v143 wc => ∃ (kq : Nat) (x143_100 : Bool), v143 = .bool x143_100 ∧ Aside0 (manometerlaw09_PointsStays.j3 kq l0 t282 t285 x8_1 (wrap64 (x9_2 - 1)) l0 (l0.length : Int) x106_2 x143_100 a1_0 a1_1 a1_2 = some r) ∧ Aside0 (kq ≤ k2) ∧ Aside0 (Kd.V k25 25 wc w.heap.size (fun k_ => k_ ≠ gb278 ∧ k_ ≠ gb293) (.slice Ao13 t282.length co13) t282) ∧ Aside0 (wc.heap[gb278]? = some (.cells #[.int .i64 a1_0, .int .u64 a1_1, .int .u64 a1_2] 25 (0, 0))) ∧ Aside0 (wc.heap[gb293]? = some (.cells #[.int .i64 ((rd_T25 l0 x106_2).f0), .int .u64 ((rd_T25 l0 x106_2).f1), .int .u64 ((rd_T25 l0 x106_2).f2)] 25 (0, 0))) ∧ Aside0 (Below w.heap.size w wc))
                      case first =>
                        have H := HC101.out
                        clear HC101
                        by_cases c107 : t295 = true
                        · subst c107
                          have H1 : (if t294 < 0 then (manometerlaw09_PointsStays.j3 k2 l0 t282 t285 x8_1 (wrap64 (x9_2 - 1)) l0 (l0.length : Int) x106_2 true a1_0 a1_1 a1_2) else (if t294 ≥ (t282.length : Int) then (manometerlaw09_PointsStays.j3 k2 l0 t282 t285 x8_1 (wrap64 (x9_2 - 1)) l0 (l0.length : Int) x106_2 true a1_0 a1_1 a1_2) else (if 0 ≤ t294 then (if t294 < (t282.length : Int) then (if ((rd_T25 t282 t294).f0) = ((rd_T25 l0 x106_2).f0) then (if ((rd_T25 t282 t294).f1) = ((rd_T25 l0 x106_2).f1) then (if ((rd_T25 t282 t294).f2) = ((rd_T25 l0 x106_2).f2) then (manometerlaw09_PointsStays.j3 k2 l0 t282 t285 x8_1 (wrap64 (x9_2 - 1)) l0 (l0.length : Int) x106_2 false a1_0 a1_1 a1_2) else (manometerlaw09_PointsStays.j3 k2 l0 t282 t285 x8_1 (wrap64 (x9_2 - 1)) l0 (l0.length : Int) x106_2 true a1_0 a1_1 a1_2)) else (manometerlaw09_PointsStays.j3 k2 l0 t282 t285 x8_1 (wrap64 (x9_2 - 1)) l0 (l0.length : Int) x106_2 true a1_0 a1_1 a1_2)) else (manometerlaw09_PointsStays.j3 k2 l0 t282 t285 x8_1 (wrap64 (x9_2 - 1)) l0 (l0.length : Int) x106_2 true a1_0 a1_1 a1_2)) else (none)) else (none)))) = some r := by rw [if_pos rfl] at H; exact H
                          clear H
                          have H := H1
                          clear H1
                          by_cases c108 : t294 < 0
                          · rw [if_pos c108] at H
                            have c108b0 : decide (t294 < 0) = true := decide_eq_true c108
                            clear c108
                            (first | rw [c108b0] | (simp only [i64_w, i32_w]; rw [c108b0]) | skip)
                            have h_ := HT_r.out
                            subst h_
                            exact absurd H (by cases k2 <;> simp [manometerlaw09_PointsStays.j3])
                          · rw [if_neg c108] at H
                            have c108b0 : decide (t294 < 0) = false := decide_eq_false c108
                            clear c108
                            (first | rw [c108b0] | (simp only [i64_w, i32_w]; rw [c108b0]) | skip)
                            by_cases c109 : t294 ≥ (t282.length : Int)
                            · rw [if_pos c109] at H
                              have c109b0 : decide ((t282.length : Int) ≤ t294) = true := decide_eq_true c109
                              clear c109
                              have h_ := HT_r.out
                              subst h_
                              exact absurd H (by cases k2 <;> simp [manometerlaw09_PointsStays.j3])
                            · rw [if_neg c109] at H
                              have c109b0 : decide ((t282.length : Int) ≤ t294) = false := decide_eq_false c109
                              clear c109
                              by_cases c110 : 0 ≤ t294
                              rotate_left
                              · rw [if_neg c110] at H
                                exact absurd H (by simp)
                              rw [if_pos c110] at H
                              have c110b0 : decide (0 ≤ t294) = true := decide_eq_true c110
                              clear c110
                              by_cases c111 : t294 < (t282.length : Int)
                              rotate_left
                              · rw [if_neg c111] at H
                                exact absurd H (by simp)
                              rw [if_pos c111] at H
                              have c111b0 : decide (t294 < (t282.length : Int)) = true := decide_eq_true c111
                              clear c111
                              by_cases c112 : ((rd_T25 t282 t294).f0) = ((rd_T25 l0 x106_2).f0)
                              · rw [if_pos c112] at H
                                have c112b0 : (((rd_T25 t282 t294).f0) == ((rd_T25 l0 x106_2).f0)) = true := beq_iff_eq.mpr c112
                                have c112b1 : (((rd_T25 t282 t294).f0) != ((rd_T25 l0 x106_2).f0)) = false := bne_eq_false_iff_eq.mpr c112
                                clear c112
                                by_cases c113 : ((rd_T25 t282 t294).f1) = ((rd_T25 l0 x106_2).f1)
                                · rw [if_pos c113] at H
                                  have c113b0 : (((rd_T25 t282 t294).f1) == ((rd_T25 l0 x106_2).f1)) = true := beq_iff_eq.mpr c113
                                  have c113b1 : (((rd_T25 t282 t294).f1) != ((rd_T25 l0 x106_2).f1)) = false := bne_eq_false_iff_eq.mpr c113
                                  clear c113
                                  by_cases c114 : ((rd_T25 t282 t294).f2) = ((rd_T25 l0 x106_2).f2)
                                  · rw [if_pos c114] at H
                                    have c114b0 : (((rd_T25 t282 t294).f2) == ((rd_T25 l0 x106_2).f2)) = true := beq_iff_eq.mpr c114
                                    have c114b1 : (((rd_T25 t282 t294).f2) != ((rd_T25 l0 x106_2).f2)) = false := bne_eq_false_iff_eq.mpr c114
                                    clear c114
                                    have H' := Aside0.mk H
                                    clear H
                                    have p296 : 0 ≤ (t294 : Int) := of_decide_eq_true (by first | (with_reducible assumption) | assumption)
                                    have q296 : t294 < (t282.length : Int) := of_decide_eq_true (by first | (with_reducible assumption) | assumption)
                                    obtain ⟨ad296, e296, hx296_0, hx296_1, hx296_2⟩ := at_T25 (Kd.V_reads' HO_5.out).2.2 t294 p296 q296
                                    cases e296
                                    replace p296 := eq_true p296
                                    replace q296 := eq_true q296
                                    have hnb115 := NB293_278.out
                                    have hnc115 := NB278_293.out
                                    have hcz116_0 : w106.cell? ⟨gb293, 0, none⟩ = some (.int .i64 ((rd_T25 l0 x106_2).f0)) := (blk_cell BK293.out 0).trans rfl
                                    have hcz116_1 : w106.cell? ⟨gb293, 1, none⟩ = some (.int .u64 ((rd_T25 l0 x106_2).f1)) := (blk_cell BK293.out 1).trans rfl
                                    have hcz116_2 : w106.cell? ⟨gb293, 2, none⟩ = some (.int .u64 ((rd_T25 l0 x106_2).f2)) := (blk_cell BK293.out 2).trans rfl
                                    have hfz116_0 := blk_frozen BK293.out 0
                                    have hfz116_1 := blk_frozen BK293.out 1
                                    have hfz116_2 := blk_frozen BK293.out 2
                                    go_wp2
                                    repeat (go_quiet (fail); try go_wp2)
                                    go_meet
                                    case rel => exact ⟨_, (false), (by first | rfl | (simp; done) | (simp [*]; done)), H', ⟨by have := HK1.out; have := HK2.out; first | omega | exact Nat.le_refl _⟩, ⟨by (with_reducible repeat (first | apply Kd.V_alloc | apply Kd.V_drewN | apply Kd.V_drew)); exact HO_5.out⟩, ⟨by (with_reducible repeat (first | refine blk_drewN ?_ _ | refine blk_drew ?_ | refine blk_alloc ?_ _)); exact BK278.out⟩, ⟨by (with_reducible repeat (first | refine blk_drewN ?_ _ | refine blk_drew ?_ | refine blk_alloc ?_ _)); exact BK293.out⟩, ⟨by repeat (first | (with_reducible first | exact HB.out | apply below_alloc | apply pw_below_drewN | apply below_drew1 | refine below_set ?_ GE278.out | refine below_set ?_ GE293.out) | exact HB.out)⟩⟩
                                  · rw [if_neg c114] at H
                                    have c114b0 : (((rd_T25 t282 t294).f2) == ((rd_T25 l0 x106_2).f2)) = false := beq_eq_false_iff_ne.mpr c114
                                    have c114b1 : (((rd_T25 t282 t294).f2) != ((rd_T25 l0 x106_2).f2)) = true := bne_iff_ne.mpr c114
                                    have h_ := HT_r.out
                                    subst h_
                                    exact absurd H (by cases k2 <;> simp [manometerlaw09_PointsStays.j3])
                                · rw [if_neg c113] at H
                                  have c113b0 : (((rd_T25 t282 t294).f1) == ((rd_T25 l0 x106_2).f1)) = false := beq_eq_false_iff_ne.mpr c113
                                  have c113b1 : (((rd_T25 t282 t294).f1) != ((rd_T25 l0 x106_2).f1)) = true := bne_iff_ne.mpr c113
                                  have h_ := HT_r.out
                                  subst h_
                                  exact absurd H (by cases k2 <;> simp [manometerlaw09_PointsStays.j3])
                              · rw [if_neg c112] at H
                                have c112b0 : (((rd_T25 t282 t294).f0) == ((rd_T25 l0 x106_2).f0)) = false := beq_eq_false_iff_ne.mpr c112
                                have c112b1 : (((rd_T25 t282 t294).f0) != ((rd_T25 l0 x106_2).f0)) = true := bne_iff_ne.mpr c112
                                have h_ := HT_r.out
                                subst h_
                                exact absurd H (by cases k2 <;> simp [manometerlaw09_PointsStays.j3])
                        · replace c107 := Bool.eq_false_iff.mpr c107
                          subst c107
                          have H1 : (manometerlaw09_PointsStays.j3 k2 l0 t282 t285 x8_1 (wrap64 (x9_2 - 1)) l0 (l0.length : Int) x106_2 true a1_0 a1_1 a1_2) = some r := by rw [if_neg (show ¬ (false = true) by decide)] at H; exact H
                          clear H
                          have H := H1
                          clear H1
                          have h_ := HT_r.out
                          subst h_
                          exact absurd H (by cases k2 <;> simp [manometerlaw09_PointsStays.j3])
                      case rest =>
                        clear HC101
                        try clear c1
                        try clear c2
                        try clear p2
                        try clear q2
                        try clear hx2
                        try clear c3
                        try clear c4
                        try clear c5
                        try clear c6
                        try clear p6
                        try clear c7
                        try clear c8
                        try clear c8b0
                        try clear c8b1
                        try clear c9
                        try clear c10
                        try clear c11
                        try clear c14
                        try clear c14b0
                        try clear c15
                        try clear c15b0
                        try clear c16
                        try clear c16b0
                        try clear c17
                        try clear c17b0
                        try clear c17b1
                        try clear c20
                        try clear c24
                        try clear c25
                        try clear c25b0
                        try clear c25b1
                        try clear c26
                        try clear c26b0
                        try clear c26b1
                        try clear c27
                        try clear c27b0
                        try clear c27b1
                        try clear c28
                        try clear c28b0
                        try clear c28b1
                        try clear p28
                        try clear q28
                        try clear hx28
                        try clear c29
                        try clear p29
                        try clear q29
                        try clear hx29
                        try clear c35
                        try clear c35b0
                        try clear c35b1
                        try clear c36
                        try clear c42
                        try clear c48
                        try clear c48b0
                        try clear c48b1
                        try clear c49
                        try clear c49b0
                        try clear c49b1
                        try clear c50
                        try clear c50b0
                        try clear c50b1
                        try clear c51
                        try clear c51b0
                        try clear c51b1
                        try clear c52
                        try clear c58
                        try clear c58b0
                        try clear c58b1
                        try clear c59
                        try clear p64
                        try clear c65
                        try clear c71
                        try clear c71b0
                        try clear c71b1
                        try clear c72
                        try clear c72b0
                        try clear c72b1
                        try clear c73
                        try clear c73b0
                        try clear c73b1
                        try clear c74
                        try clear c74b0
                        try clear c74b1
                        try clear c75
                        try clear c81
                        try clear c87
                        try clear c89
                        try clear c92
                        try clear c92b0
                        try clear c93
                        try clear c93b0
                        try clear c94
                        try clear c94b0
                        try clear c95
                        try clear c95b0
                        try clear c95b1
                        try clear c97
                        try clear c103
                        try clear c107
                        try clear c108
                        try clear c108b0
                        try clear c109
                        try clear c109b0
                        try clear c110
                        try clear c110b0
                        try clear c111
                        try clear c111b0
                        try clear c112
                        try clear c112b0
                        try clear c112b1
                        try clear c113
                        try clear c113b0
                        try clear c113b1
                        try clear c114
                        try clear c114b0
                        try clear c114b1
                        try clear c115
                        try clear hcz104_0
                        try clear hcz104_1
                        try clear hcz104_2
                        try clear hcz105_0
                        try clear hcz105_1
                        try clear hcz105_2
                        try clear hcz116_0
                        try clear hcz116_1
                        try clear hcz116_2
                        try clear hcz11_0
                        try clear hcz11_1
                        try clear hcz11_2
                        try clear hcz21_0
                        try clear hcz21_1
                        try clear hcz21_2
                        try clear hcz22_0
                        try clear hcz22_1
                        try clear hcz22_2
                        try clear hcz30_0
                        try clear hcz30_1
                        try clear hcz30_2
                        try clear hcz31_0
                        try clear hcz31_1
                        try clear hcz31_2
                        try clear hcz33_0
                        try clear hcz33_1
                        try clear hcz33_2
                        try clear hcz34_0
                        try clear hcz34_1
                        try clear hcz34_2
                        try clear hcz37_0
                        try clear hcz37_1
                        try clear hcz37_2
                        try clear hcz38_0
                        try clear hcz38_1
                        try clear hcz38_2
                        try clear hcz40_0
                        try clear hcz40_1
                        try clear hcz40_2
                        try clear hcz41_0
                        try clear hcz41_1
                        try clear hcz41_2
                        try clear hcz43_0
                        try clear hcz43_1
                        try clear hcz43_2
                        try clear hcz44_0
                        try clear hcz44_1
                        try clear hcz44_2
                        try clear hcz46_0
                        try clear hcz46_1
                        try clear hcz46_2
                        try clear hcz47_0
                        try clear hcz47_1
                        try clear hcz47_2
                        try clear hcz53_0
                        try clear hcz53_1
                        try clear hcz53_2
                        try clear hcz54_0
                        try clear hcz54_1
                        try clear hcz54_2
                        try clear hcz56_0
                        try clear hcz56_1
                        try clear hcz56_2
                        try clear hcz57_0
                        try clear hcz57_1
                        try clear hcz57_2
                        try clear hcz60_0
                        try clear hcz60_1
                        try clear hcz60_2
                        try clear hcz61_0
                        try clear hcz61_1
                        try clear hcz61_2
                        try clear hcz63_0
                        try clear hcz63_1
                        try clear hcz63_2
                        try clear hcz64_0
                        try clear hcz64_1
                        try clear hcz64_2
                        try clear hcz66_0
                        try clear hcz66_1
                        try clear hcz66_2
                        try clear hcz67_0
                        try clear hcz67_1
                        try clear hcz67_2
                        try clear hcz69_0
                        try clear hcz69_1
                        try clear hcz69_2
                        try clear hcz70_0
                        try clear hcz70_1
                        try clear hcz70_2
                        try clear hcz76_0
                        try clear hcz76_1
                        try clear hcz76_2
                        try clear hcz77_0
                        try clear hcz77_1
                        try clear hcz77_2
                        try clear hcz79_0
                        try clear hcz79_1
                        try clear hcz79_2
                        try clear hcz80_0
                        try clear hcz80_1
                        try clear hcz80_2
                        try clear hcz82_0
                        try clear hcz82_1
                        try clear hcz82_2
                        try clear hcz83_0
                        try clear hcz83_1
                        try clear hcz83_2
                        try clear hcz85_0
                        try clear hcz85_1
                        try clear hcz85_2
                        try clear hcz86_0
                        try clear hcz86_1
                        try clear hcz86_2
                        try clear hcz90_0
                        try clear hcz90_1
                        try clear hcz90_2
                        try clear hcz91_0
                        try clear hcz91_1
                        try clear hcz91_2
                        try clear hcz98_0
                        try clear hcz98_1
                        try clear hcz98_2
                        try clear hcz99_0
                        try clear hcz99_1
                        try clear hcz99_2
                        try clear hfz104_0
                        try clear hfz104_1
                        try clear hfz104_2
                        try clear hfz105_0
                        try clear hfz105_1
                        try clear hfz105_2
                        try clear hfz116_0
                        try clear hfz116_1
                        try clear hfz116_2
                        try clear hfz11_0
                        try clear hfz11_1
                        try clear hfz11_2
                        try clear hfz21_0
                        try clear hfz21_1
                        try clear hfz21_2
                        try clear hfz22_0
                        try clear hfz22_1
                        try clear hfz22_2
                        try clear hfz30_0
                        try clear hfz30_1
                        try clear hfz30_2
                        try clear hfz31_0
                        try clear hfz31_1
                        try clear hfz31_2
                        try clear hfz33_0
                        try clear hfz33_1
                        try clear hfz33_2
                        try clear hfz34_0
                        try clear hfz34_1
                        try clear hfz34_2
                        try clear hfz37_0
                        try clear hfz37_1
                        try clear hfz37_2
                        try clear hfz38_0
                        try clear hfz38_1
                        try clear hfz38_2
                        try clear hfz40_0
                        try clear hfz40_1
                        try clear hfz40_2
                        try clear hfz41_0
                        try clear hfz41_1
                        try clear hfz41_2
                        try clear hfz43_0
                        try clear hfz43_1
                        try clear hfz43_2
                        try clear hfz44_0
                        try clear hfz44_1
                        try clear hfz44_2
                        try clear hfz46_0
                        try clear hfz46_1
                        try clear hfz46_2
                        try clear hfz47_0
                        try clear hfz47_1
                        try clear hfz47_2
                        try clear hfz53_0
                        try clear hfz53_1
                        try clear hfz53_2
                        try clear hfz54_0
                        try clear hfz54_1
                        try clear hfz54_2
                        try clear hfz56_0
                        try clear hfz56_1
                        try clear hfz56_2
                        try clear hfz57_0
                        try clear hfz57_1
                        try clear hfz57_2
                        try clear hfz60_0
                        try clear hfz60_1
                        try clear hfz60_2
                        try clear hfz61_0
                        try clear hfz61_1
                        try clear hfz61_2
                        try clear hfz63_0
                        try clear hfz63_1
                        try clear hfz63_2
                        try clear hfz64_0
                        try clear hfz64_1
                        try clear hfz64_2
                        try clear hfz66_0
                        try clear hfz66_1
                        try clear hfz66_2
                        try clear hfz67_0
                        try clear hfz67_1
                        try clear hfz67_2
                        try clear hfz69_0
                        try clear hfz69_1
                        try clear hfz69_2
                        try clear hfz70_0
                        try clear hfz70_1
                        try clear hfz70_2
                        try clear hfz76_0
                        try clear hfz76_1
                        try clear hfz76_2
                        try clear hfz77_0
                        try clear hfz77_1
                        try clear hfz77_2
                        try clear hfz79_0
                        try clear hfz79_1
                        try clear hfz79_2
                        try clear hfz80_0
                        try clear hfz80_1
                        try clear hfz80_2
                        try clear hfz82_0
                        try clear hfz82_1
                        try clear hfz82_2
                        try clear hfz83_0
                        try clear hfz83_1
                        try clear hfz83_2
                        try clear hfz85_0
                        try clear hfz85_1
                        try clear hfz85_2
                        try clear hfz86_0
                        try clear hfz86_1
                        try clear hfz86_2
                        try clear hfz90_0
                        try clear hfz90_1
                        try clear hfz90_2
                        try clear hfz91_0
                        try clear hfz91_1
                        try clear hfz91_2
                        try clear hfz98_0
                        try clear hfz98_1
                        try clear hfz98_2
                        try clear hfz99_0
                        try clear hfz99_1
                        try clear hfz99_2
                        try clear hx289_0
                        try clear hx289_1
                        try clear hx289_2
                        try clear hx292_0
                        try clear hx292_1
                        try clear hx292_2
                        try clear hx296_0
                        try clear hx296_1
                        try clear hx296_2
                        try clear p2
                        try clear p28
                        try clear p289
                        try clear p292
                        try clear p296
                        try clear p6
                        try clear p64
                        try clear q2
                        try clear q28
                        try clear q289
                        try clear q292
                        try clear q296
                        obtain ⟨kq, x143_100, rfl, HA, HJ100, HO_5, BK278, BK293, HB⟩ := hcut
                        cases kq with
                        | zero => exact absurd HA.out (by simp [manometerlaw09_PointsStays.j3])
                        | succ kj100 =>
                          have H := HA.out
                          clear HA
                          simp only [manometerlaw09_PointsStays.j3] at H
                          by_cases c117 : x143_100 = true
                          · subst c117
                            have H1 : (some false) = some r := by rw [if_pos rfl] at H; exact H
                            clear H
                            have H := H1
                            clear H1
                            obtain rfl := Option.some.inj H
                            exact absurd HT_r.out (by decide)
                          · replace c117 := Bool.eq_false_iff.mpr c117
                            subst c117
                            have H1 : (manometerlaw09_PointsStays.l1 kj100 l0 t282 t285 x8_1 (wrap64 (x9_2 - 1)) l0 (l0.length : Int) (wrap64 (x106_2 + 1)) a1_0 a1_1 a1_2) = some r := by rw [if_neg (show ¬ (false = true) by decide)] at H; exact H
                            clear H
                            have H := H1
                            clear H1
                            have H' := Aside0.mk H
                            clear H
                            go_wp2
                            repeat (go_quiet (fail); try go_wp2)
                            go_roundg kj100
                            case measure => have := HK1.out; have := HK2.out; have := HJ100.out; omega
                            case rel => exact ⟨((wrap64 (x9_2 - 1))), (wrap64 (x106_2 + 1)), (by first | rfl | (simp; done) | (simp [*]; done)), (by first | rfl | (simp; done) | (simp [*]; done)), H', ⟨by have := HK1.out; have := HK2.out; have := HJ100.out; omega⟩, ⟨by (with_reducible repeat (first | apply Kd.V_alloc | apply Kd.V_drewN | apply Kd.V_drew)); exact Kd.V_mono HO_5.out (fun _ hk => hk.1)⟩, ⟨by (with_reducible repeat (first | refine blk_drewN ?_ _ | refine blk_drew ?_ | refine blk_alloc ?_ _)); exact BK278.out⟩, ⟨by repeat (first | (with_reducible first | exact HB.out | apply below_alloc | apply pw_below_drewN | apply below_drew1 | refine below_set ?_ GE278.out | refine below_set ?_ GE293.out) | exact HB.out)⟩⟩
                  · rw [if_neg c92] at H
                    have c92b0 : decide (x106_2 < (l0.length : Int)) = false := decide_eq_false c92
                    clear c92
                    replace H := Option.bind_eq_some_iff.mp H
                    obtain ⟨t297, A1180, H⟩ := H
                    replace H : (if t297 = true then (if x8_1 = 1 then (if x9_2 = 0 then (some ((t285 == 1) == ((t282.length : Int) == (wrap64 ((l0.length : Int) + 1))))) else (some false)) else (some false)) else (some false)) = some r := H
                    have A118 := Aside0.mk A1180
                    clear A1180
                    by_cases c119 : t297 = true
                    · subst c119
                      have H1 : (if x8_1 = 1 then (if x9_2 = 0 then (some ((t285 == 1) == ((t282.length : Int) == (wrap64 ((l0.length : Int) + 1))))) else (some false)) else (some false)) = some r := by rw [if_pos rfl] at H; exact H
                      clear H
                      have H := H1
                      clear H1
                      by_cases c120 : x8_1 = 1
                      rotate_left
                      · rw [if_neg c120] at H
                        have c120b0 : (x8_1 == 1) = false := beq_eq_false_iff_ne.mpr c120
                        have c120b1 : (x8_1 != 1) = true := bne_iff_ne.mpr c120
                        obtain rfl := Option.some.inj H
                        exact absurd HT_r.out (by decide)
                      rw [if_pos c120] at H
                      have c120b0 : (x8_1 == 1) = true := beq_iff_eq.mpr c120
                      have c120b1 : (x8_1 != 1) = false := bne_eq_false_iff_eq.mpr c120
                      have EQc120 := Aside0.mk c120
                      clear c120
                      by_cases c121 : x9_2 = 0
                      rotate_left
                      · rw [if_neg c121] at H
                        have c121b0 : (x9_2 == 0) = false := beq_eq_false_iff_ne.mpr c121
                        have c121b1 : (x9_2 != 0) = true := bne_iff_ne.mpr c121
                        obtain rfl := Option.some.inj H
                        exact absurd HT_r.out (by decide)
                      rw [if_pos c121] at H
                      have c121b0 : (x9_2 == 0) = true := beq_iff_eq.mpr c121
                      have c121b1 : (x9_2 != 0) = false := bne_eq_false_iff_eq.mpr c121
                      have EQc121 := Aside0.mk c121
                      clear c121
                      obtain rfl := Option.some.inj H
                      go_wp2_with (first | (go_at_call 14; (with_reducible refine (points_Right.calls k2 _ _ t282 true _ ?side1 ?side2 A118.out).mono ?_); (case side1 => repeat (first | exact (Kd.V_reads' HO_5.out).2.2 | (with_reducible refine Kd.C_alloc ?_ _) | (with_reducible refine Kd.C_drewN ?_ _) | (with_reducible refine Kd.C_drew ?_))); (case side2 => exact (Kd.V_reads' HO_5.out).2.1); rintro e w122 ⟨rfl, hb⟩; have n0_ := Aside0.mk (Kd.V_below (by (with_reducible repeat (first | apply Kd.V_alloc | apply Kd.V_drewN | apply Kd.V_drew)); exact HO_5.out) hb); have n1_ := Aside0.mk (blk_below (g := gb278) (o := .cells #[.int .i64 a1_0, .int .u64 a1_1, .int .u64 a1_2] 25 (0, 0)) (by (with_reducible repeat (first | refine blk_drewN ?_ _ | refine blk_drew ?_ | refine blk_alloc ?_ _)); exact BK278.out) hb); have n2_ := Aside0.mk (below_step (by repeat (first | (with_reducible first | exact HB.out | apply below_alloc | apply pw_below_drewN | apply below_drew1 | refine below_set ?_ GE278.out) | exact HB.out)) hb); clear HO_5; clear BK278; clear HB; have HO_5 := n0_; have BK278 := n1_; have HB := n2_; clear n0_ n1_ n2_; (try clear hb); (try clear hb2); (try clear hk); (try clear hi)))
                      repeat (go_quiet (fail); try go_wp2_with (first | (go_at_call 14; (with_reducible refine (points_Right.calls k2 _ _ t282 true _ ?side1 ?side2 A118.out).mono ?_); (case side1 => repeat (first | exact (Kd.V_reads' HO_5.out).2.2 | (with_reducible refine Kd.C_alloc ?_ _) | (with_reducible refine Kd.C_drewN ?_ _) | (with_reducible refine Kd.C_drew ?_))); (case side2 => exact (Kd.V_reads' HO_5.out).2.1); rintro e w122 ⟨rfl, hb⟩; have n0_ := Aside0.mk (Kd.V_below (by (with_reducible repeat (first | apply Kd.V_alloc | apply Kd.V_drewN | apply Kd.V_drew)); exact HO_5.out) hb); have n1_ := Aside0.mk (blk_below (g := gb278) (o := .cells #[.int .i64 a1_0, .int .u64 a1_1, .int .u64 a1_2] 25 (0, 0)) (by (with_reducible repeat (first | refine blk_drewN ?_ _ | refine blk_drew ?_ | refine blk_alloc ?_ _)); exact BK278.out) hb); have n2_ := Aside0.mk (below_step (by repeat (first | (with_reducible first | exact HB.out | apply below_alloc | apply pw_below_drewN | apply below_drew1 | refine below_set ?_ GE278.out) | exact HB.out)) hb); clear HO_5; clear BK278; clear HB; have HO_5 := n0_; have BK278 := n1_; have HB := n2_; clear n0_ n1_ n2_; (try clear hb); (try clear hb2); (try clear hk); (try clear hi))))
                      go_ret
                      exact ⟨by first | rfl | (simp [errW_none, errW_some] <;> rfl) | (simp [*, errW_none, errW_some] <;> rfl), by repeat (first | (with_reducible first | exact HB.out | apply below_alloc | apply pw_below_drewN | apply below_drew1 | refine below_set ?_ GE278.out) | exact HB.out)⟩
                    · replace c119 := Bool.eq_false_iff.mpr c119
                      subst c119
                      have H1 : (some false) = some r := by rw [if_neg (show ¬ (false = true) by decide)] at H; exact H
                      clear H
                      have H := H1
                      clear H1
                      obtain rfl := Option.some.inj H
                      exact absurd HT_r.out (by decide)
      · rw [if_neg c8] at H
        have c8b0 : (t286 == 0) = false := beq_eq_false_iff_ne.mpr c8
        have c8b1 : (t286 != 0) = true := bne_iff_ne.mpr c8
        by_cases c123 : t285 = 0
        rotate_left
        · rw [if_neg c123] at H
          have c123b0 : (t285 == 0) = false := beq_eq_false_iff_ne.mpr c123
          have c123b1 : (t285 != 0) = true := bne_iff_ne.mpr c123
          obtain rfl := Option.some.inj H
          exact absurd HT_r.out (by decide)
        rw [if_pos c123] at H
        have c123b0 : (t285 == 0) = true := beq_iff_eq.mpr c123
        have c123b1 : (t285 != 0) = false := bne_eq_false_iff_eq.mpr c123
        have EQc123 := Aside0.mk c123
        clear c123
        replace H := Option.bind_eq_some_iff.mp H
        obtain ⟨t287, A1240, H⟩ := H
        replace H : (if t287 = true then ((points_Right.f k l0).bind fun t288 => (if t288 = true then (some (a1_2 == 0)) else (some true))) else (some false)) = some r := H
        have A124 := Aside0.mk A1240
        clear A1240
        by_cases c125 : t287 = true
        · subst c125
          have H1 : ((points_Right.f k l0).bind fun t288 => (if t288 = true then (some (a1_2 == 0)) else (some true))) = some r := by rw [if_pos rfl] at H; exact H
          clear H
          have H := H1
          clear H1
          replace H := Option.bind_eq_some_iff.mp H
          obtain ⟨t288, A1260, H⟩ := H
          replace H : (if t288 = true then (some (a1_2 == 0)) else (some true)) = some r := H
          have A126 := Aside0.mk A1260
          clear A1260
          by_cases c127 : t288 = true
          · subst c127
            have H1 : (some (a1_2 == 0)) = some r := by rw [if_pos rfl] at H; exact H
            clear H
            have H := H1
            clear H1
            obtain rfl := Option.some.inj H
            go_enter Try.func6, Try.ntmps6
            go_wp2_with (first | ((with_reducible refine gate_dst (N := 3) rfl ?_); (try (refine gate_guard (by rfl) ?_; dsimp only)); refine box_event ?hg (N := 3) ?hd (cs := #[.int .i64 a1_0, .int .u64 a1_1, .int .u64 a1_2]) (t := 25) ?hr ?_; (case hd => rfl); (case hg => rfl); (case hr => first | (go_simp; done) | (go_simp; rfl)); intro gb278 hg w128 hbox hb; have n0_ := Aside0.mk (below_step (by repeat (first | (with_reducible first | exact HB.out | apply below_alloc | apply pw_below_drewN | apply below_drew1) | exact HB.out)) hb); have n1_ := Aside0.mk (hbox); have n2_ := Aside0.mk ((by rw [hg]; exact (below_size (by repeat (first | (with_reducible first | exact HB.out | apply below_alloc | apply pw_below_drewN | apply below_drew1) | exact HB.out))) : w.heap.size ≤ gb278)); have n3_ := Aside0.mk ((by rw [hg]; exact (below_size (by repeat (first | (with_reducible first | exact HB.out | apply below_alloc | apply pw_below_drewN | apply below_drew1) | exact HB.out))) : w.heap.size ≤ gb278)); clear HB; have HB := n0_; have BK278 := n1_; have GW278 := n2_; have GE278 := n3_; clear n0_ n1_ n2_ n3_; clear hb hbox hg) | (go_at_call 12; (with_reducible refine (manometerlaw09_live.calls k  true _ A3.out).mono ?_); rintro e w129 ⟨rfl, hb⟩; have n0_ := Aside0.mk (blk_below (g := gb278) (o := .cells #[.int .i64 a1_0, .int .u64 a1_1, .int .u64 a1_2] 25 (0, 0)) (by (with_reducible repeat (first | refine blk_drewN ?_ _ | refine blk_drew ?_ | refine blk_alloc ?_ _)); exact BK278.out) hb); have n1_ := Aside0.mk (below_step (by repeat (first | (with_reducible first | exact HB.out | apply below_alloc | apply pw_below_drewN | apply below_drew1 | refine below_set ?_ GE278.out) | exact HB.out)) hb); clear BK278; clear HB; have BK278 := n0_; have HB := n1_; clear n0_ n1_; (try clear hb); (try clear hb2); (try clear hk); (try clear hi)) | (go_at_call 13; (with_reducible refine (manometerlaw09_few.calls _ _ l0 true _ ?side1 ?side2 A5.out).mono ?_); (case side1 => repeat (first | exact (Kd.C_below HR0.out HB.out) | (with_reducible refine Kd.C_alloc ?_ _) | (with_reducible refine Kd.C_drewN ?_ _) | (with_reducible refine Kd.C_drew ?_))); (case side2 => exact HC0.out); rintro e w' ⟨rfl, ⟨nd, rfl⟩⟩; (try first | exact ⟨rfl, _, World.drewN_drewN _ _ _⟩ | exact ⟨rfl, _, Eq.trans (World.drewN_drewN _ _ _) (congrArg (World.drewN _) (Nat.add_assoc _ _ _))⟩); have hcz130_0 : w129.cell? ⟨gb278, 0, none⟩ = some (.int .i64 a1_0) := (blk_cell BK278.out 0).trans rfl; have hcz130_1 : w129.cell? ⟨gb278, 1, none⟩ = some (.int .u64 a1_1) := (blk_cell BK278.out 1).trans rfl; have hcz130_2 : w129.cell? ⟨gb278, 2, none⟩ = some (.int .u64 a1_2) := (blk_cell BK278.out 2).trans rfl; have hfz130_0 := blk_frozen BK278.out 0; have hfz130_1 := blk_frozen BK278.out 1; have hfz130_2 := blk_frozen BK278.out 2) | (go_at_call 21; (with_reducible refine (points_Put.calls k (fun k_ => k_ < w.heap.size) _ _ l0 a1_0 a1_1 a1_2 t282 t285 t286 _ ?side1 A7.out).mono ?_); (case side1 => exact Kd.V_mk HC0.out (Kd.F_below (Kd.C_F k25_heap HR0.out) (by repeat (first | (with_reducible first | exact HB.out | apply below_alloc | apply pw_below_drewN | apply below_drew1 | refine below_set ?_ GE278.out) | exact HB.out)))); rintro e w131 ⟨v283, rfl, ho0, hb⟩; have n0_ := Aside0.mk (Kd.V_lower (Kd.V_mono (ok' := fun k_ => k_ ≠ gb278) ho0 (fun k_ hk_ => Or.elim hk_ (fun hs_ => fun e_ => Nat.not_le.2 hs_ (by rw [e_]; exact GW278.out)) (fun hn_ => (Kd.freshB (g := gb278) (o := .cells #[.int .i64 a1_0, .int .u64 a1_1, .int .u64 a1_2] 25 (0, 0)) (by (with_reducible repeat (first | refine blk_drewN ?_ _ | refine blk_drew ?_ | refine blk_alloc ?_ _)); exact BK278.out) k_ hn_)))) (below_size (by repeat (first | (with_reducible first | exact HB.out | apply below_alloc | apply pw_below_drewN | apply below_drew1 | refine below_set ?_ GE278.out) | exact HB.out)))); have n1_ := Aside0.mk (blk_below (g := gb278) (o := .cells #[.int .i64 a1_0, .int .u64 a1_1, .int .u64 a1_2] 25 (0, 0)) (by (with_reducible repeat (first | refine blk_drewN ?_ _ | refine blk_drew ?_ | refine blk_alloc ?_ _)); exact BK278.out) hb); have n2_ := Aside0.mk (below_step (by repeat (first | (with_reducible first | exact HB.out | apply below_alloc | apply pw_below_drewN | apply below_drew1 | refine below_set ?_ GE278.out) | exact HB.out)) hb); clear BK278; clear HB; have HO284 := n0_; have BK278 := n1_; have HB := n2_; clear n0_ n1_ n2_; (try clear hb); (try clear hb2); (try clear hk); (try clear hi); (try clear ho0); obtain ⟨Ao132, co132, eo132⟩ := Kd.V_slice HO284.out; subst eo132) | (go_at_call 23; (with_reducible refine (manometerref09_Same.calls k _ _ l0 _ _ t282 true _ ?side1 ?side2 ?side3 ?side4 A124.out).mono ?_); (case side1 => repeat (first | exact (Kd.C_below HR0.out HB.out) | (with_reducible refine Kd.C_alloc ?_ _) | (with_reducible refine Kd.C_drewN ?_ _) | (with_reducible refine Kd.C_drew ?_))); (case side2 => exact HC0.out); (case side3 => repeat (first | exact (Kd.V_reads' HO284.out).2.2 | (with_reducible refine Kd.C_alloc ?_ _) | (with_reducible refine Kd.C_drewN ?_ _) | (with_reducible refine Kd.C_drew ?_))); (case side4 => exact (Kd.V_reads' HO284.out).2.1); rintro e w' ⟨rfl, ⟨nd, rfl⟩⟩; (try first | exact ⟨rfl, _, World.drewN_drewN _ _ _⟩ | exact ⟨rfl, _, Eq.trans (World.drewN_drewN _ _ _) (congrArg (World.drewN _) (Nat.add_assoc _ _ _))⟩)) | (go_at_call 14; (with_reducible refine (points_Right.calls k _ _ l0 true _ ?side1 ?side2 A126.out).mono ?_); (case side1 => repeat (first | exact (Kd.C_below HR0.out (by repeat (first | (with_reducible first | exact HB.out | apply below_alloc | apply pw_below_drewN | apply below_drew1 | refine below_set ?_ GE278.out) | exact HB.out))) | (with_reducible refine Kd.C_alloc ?_ _) | (with_reducible refine Kd.C_drewN ?_ _) | (with_reducible refine Kd.C_drew ?_))); (case side2 => exact HC0.out); rintro e w133 ⟨rfl, hb⟩; have n0_ := Aside0.mk (Kd.V_below (by (with_reducible repeat (first | apply Kd.V_alloc | apply Kd.V_drewN | apply Kd.V_drew)); exact HO284.out) hb); have n1_ := Aside0.mk (blk_below (g := gb278) (o := .cells #[.int .i64 a1_0, .int .u64 a1_1, .int .u64 a1_2] 25 (0, 0)) (by (with_reducible repeat (first | refine blk_drewN ?_ _ | refine blk_drew ?_ | refine blk_alloc ?_ _)); exact BK278.out) hb); have n2_ := Aside0.mk (below_step (by repeat (first | (with_reducible first | exact HB.out | apply below_alloc | apply pw_below_drewN | apply below_drew1 | refine below_set ?_ GE278.out) | exact HB.out)) hb); clear HO284; clear BK278; clear HB; have HO284 := n0_; have BK278 := n1_; have HB := n2_; clear n0_ n1_ n2_; (try clear hb); (try clear hb2); (try clear hk); (try clear hi); have hcz134_0 : w133.cell? ⟨gb278, 0, none⟩ = some (.int .i64 a1_0) := (blk_cell BK278.out 0).trans rfl; have hcz134_1 : w133.cell? ⟨gb278, 1, none⟩ = some (.int .u64 a1_1) := (blk_cell BK278.out 1).trans rfl; have hcz134_2 : w133.cell? ⟨gb278, 2, none⟩ = some (.int .u64 a1_2) := (blk_cell BK278.out 2).trans rfl; have hfz134_0 := blk_frozen BK278.out 0; have hfz134_1 := blk_frozen BK278.out 1; have hfz134_2 := blk_frozen BK278.out 2))
            repeat (go_quiet (first | (go_at_call 13; (with_reducible refine (manometerlaw09_few.calls _ _ l0 true _ ?side1 ?side2 A5.out).mono ?_); (case side1 => repeat (first | exact (Kd.C_below HR0.out HB.out) | (with_reducible refine Kd.C_alloc ?_ _) | (with_reducible refine Kd.C_drewN ?_ _) | (with_reducible refine Kd.C_drew ?_))); (case side2 => exact HC0.out); rintro e w' ⟨rfl, ⟨nd, rfl⟩⟩; (try first | exact ⟨rfl, _, World.drewN_drewN _ _ _⟩ | exact ⟨rfl, _, Eq.trans (World.drewN_drewN _ _ _) (congrArg (World.drewN _) (Nat.add_assoc _ _ _))⟩); have hcz130_0 : w129.cell? ⟨gb278, 0, none⟩ = some (.int .i64 a1_0) := (blk_cell BK278.out 0).trans rfl; have hcz130_1 : w129.cell? ⟨gb278, 1, none⟩ = some (.int .u64 a1_1) := (blk_cell BK278.out 1).trans rfl; have hcz130_2 : w129.cell? ⟨gb278, 2, none⟩ = some (.int .u64 a1_2) := (blk_cell BK278.out 2).trans rfl; have hfz130_0 := blk_frozen BK278.out 0; have hfz130_1 := blk_frozen BK278.out 1; have hfz130_2 := blk_frozen BK278.out 2) | (go_at_call 23; (with_reducible refine (manometerref09_Same.calls k _ _ l0 _ _ t282 true _ ?side1 ?side2 ?side3 ?side4 A124.out).mono ?_); (case side1 => repeat (first | exact (Kd.C_below HR0.out HB.out) | (with_reducible refine Kd.C_alloc ?_ _) | (with_reducible refine Kd.C_drewN ?_ _) | (with_reducible refine Kd.C_drew ?_))); (case side2 => exact HC0.out); (case side3 => repeat (first | exact (Kd.V_reads' HO284.out).2.2 | (with_reducible refine Kd.C_alloc ?_ _) | (with_reducible refine Kd.C_drewN ?_ _) | (with_reducible refine Kd.C_drew ?_))); (case side4 => exact (Kd.V_reads' HO284.out).2.1); rintro e w' ⟨rfl, ⟨nd, rfl⟩⟩; (try first | exact ⟨rfl, _, World.drewN_drewN _ _ _⟩ | exact ⟨rfl, _, Eq.trans (World.drewN_drewN _ _ _) (congrArg (World.drewN _) (Nat.add_assoc _ _ _))⟩))); try go_wp2_with (first | ((with_reducible refine gate_dst (N := 3) rfl ?_); (try (refine gate_guard (by rfl) ?_; dsimp only)); refine box_event ?hg (N := 3) ?hd (cs := #[.int .i64 a1_0, .int .u64 a1_1, .int .u64 a1_2]) (t := 25) ?hr ?_; (case hd => rfl); (case hg => rfl); (case hr => first | (go_simp; done) | (go_simp; rfl)); intro gb278 hg w128 hbox hb; have n0_ := Aside0.mk (below_step (by repeat (first | (with_reducible first | exact HB.out | apply below_alloc | apply pw_below_drewN | apply below_drew1) | exact HB.out)) hb); have n1_ := Aside0.mk (hbox); have n2_ := Aside0.mk ((by rw [hg]; exact (below_size (by repeat (first | (with_reducible first | exact HB.out | apply below_alloc | apply pw_below_drewN | apply below_drew1) | exact HB.out))) : w.heap.size ≤ gb278)); have n3_ := Aside0.mk ((by rw [hg]; exact (below_size (by repeat (first | (with_reducible first | exact HB.out | apply below_alloc | apply pw_below_drewN | apply below_drew1) | exact HB.out))) : w.heap.size ≤ gb278)); clear HB; have HB := n0_; have BK278 := n1_; have GW278 := n2_; have GE278 := n3_; clear n0_ n1_ n2_ n3_; clear hb hbox hg) | (go_at_call 12; (with_reducible refine (manometerlaw09_live.calls k  true _ A3.out).mono ?_); rintro e w129 ⟨rfl, hb⟩; have n0_ := Aside0.mk (blk_below (g := gb278) (o := .cells #[.int .i64 a1_0, .int .u64 a1_1, .int .u64 a1_2] 25 (0, 0)) (by (with_reducible repeat (first | refine blk_drewN ?_ _ | refine blk_drew ?_ | refine blk_alloc ?_ _)); exact BK278.out) hb); have n1_ := Aside0.mk (below_step (by repeat (first | (with_reducible first | exact HB.out | apply below_alloc | apply pw_below_drewN | apply below_drew1 | refine below_set ?_ GE278.out) | exact HB.out)) hb); clear BK278; clear HB; have BK278 := n0_; have HB := n1_; clear n0_ n1_; (try clear hb); (try clear hb2); (try clear hk); (try clear hi)) | (go_at_call 13; (with_reducible refine (manometerlaw09_few.calls _ _ l0 true _ ?side1 ?side2 A5.out).mono ?_); (case side1 => repeat (first | exact (Kd.C_below HR0.out HB.out) | (with_reducible refine Kd.C_alloc ?_ _) | (with_reducible refine Kd.C_drewN ?_ _) | (with_reducible refine Kd.C_drew ?_))); (case side2 => exact HC0.out); rintro e w' ⟨rfl, ⟨nd, rfl⟩⟩; (try first | exact ⟨rfl, _, World.drewN_drewN _ _ _⟩ | exact ⟨rfl, _, Eq.trans (World.drewN_drewN _ _ _) (congrArg (World.drewN _) (Nat.add_assoc _ _ _))⟩); have hcz130_0 : w129.cell? ⟨gb278, 0, none⟩ = some (.int .i64 a1_0) := (blk_cell BK278.out 0).trans rfl; have hcz130_1 : w129.cell? ⟨gb278, 1, none⟩ = some (.int .u64 a1_1) := (blk_cell BK278.out 1).trans rfl; have hcz130_2 : w129.cell? ⟨gb278, 2, none⟩ = some (.int .u64 a1_2) := (blk_cell BK278.out 2).trans rfl; have hfz130_0 := blk_frozen BK278.out 0; have hfz130_1 := blk_frozen BK278.out 1; have hfz130_2 := blk_frozen BK278.out 2) | (go_at_call 21; (with_reducible refine (points_Put.calls k (fun k_ => k_ < w.heap.size) _ _ l0 a1_0 a1_1 a1_2 t282 t285 t286 _ ?side1 A7.out).mono ?_); (case side1 => exact Kd.V_mk HC0.out (Kd.F_below (Kd.C_F k25_heap HR0.out) (by repeat (first | (with_reducible first | exact HB.out | apply below_alloc | apply pw_below_drewN | apply below_drew1 | refine below_set ?_ GE278.out) | exact HB.out)))); rintro e w131 ⟨v283, rfl, ho0, hb⟩; have n0_ := Aside0.mk (Kd.V_lower (Kd.V_mono (ok' := fun k_ => k_ ≠ gb278) ho0 (fun k_ hk_ => Or.elim hk_ (fun hs_ => fun e_ => Nat.not_le.2 hs_ (by rw [e_]; exact GW278.out)) (fun hn_ => (Kd.freshB (g := gb278) (o := .cells #[.int .i64 a1_0, .int .u64 a1_1, .int .u64 a1_2] 25 (0, 0)) (by (with_reducible repeat (first | refine blk_drewN ?_ _ | refine blk_drew ?_ | refine blk_alloc ?_ _)); exact BK278.out) k_ hn_)))) (below_size (by repeat (first | (with_reducible first | exact HB.out | apply below_alloc | apply pw_below_drewN | apply below_drew1 | refine below_set ?_ GE278.out) | exact HB.out)))); have n1_ := Aside0.mk (blk_below (g := gb278) (o := .cells #[.int .i64 a1_0, .int .u64 a1_1, .int .u64 a1_2] 25 (0, 0)) (by (with_reducible repeat (first | refine blk_drewN ?_ _ | refine blk_drew ?_ | refine blk_alloc ?_ _)); exact BK278.out) hb); have n2_ := Aside0.mk (below_step (by repeat (first | (with_reducible first | exact HB.out | apply below_alloc | apply pw_below_drewN | apply below_drew1 | refine below_set ?_ GE278.out) | exact HB.out)) hb); clear BK278; clear HB; have HO284 := n0_; have BK278 := n1_; have HB := n2_; clear n0_ n1_ n2_; (try clear hb); (try clear hb2); (try clear hk); (try clear hi); (try clear ho0); obtain ⟨Ao132, co132, eo132⟩ := Kd.V_slice HO284.out; subst eo132) | (go_at_call 23; (with_reducible refine (manometerref09_Same.calls k _ _ l0 _ _ t282 true _ ?side1 ?side2 ?side3 ?side4 A124.out).mono ?_); (case side1 => repeat (first | exact (Kd.C_below HR0.out HB.out) | (with_reducible refine Kd.C_alloc ?_ _) | (with_reducible refine Kd.C_drewN ?_ _) | (with_reducible refine Kd.C_drew ?_))); (case side2 => exact HC0.out); (case side3 => repeat (first | exact (Kd.V_reads' HO284.out).2.2 | (with_reducible refine Kd.C_alloc ?_ _) | (with_reducible refine Kd.C_drewN ?_ _) | (with_reducible refine Kd.C_drew ?_))); (case side4 => exact (Kd.V_reads' HO284.out).2.1); rintro e w' ⟨rfl, ⟨nd, rfl⟩⟩; (try first | exact ⟨rfl, _, World.drewN_drewN _ _ _⟩ | exact ⟨rfl, _, Eq.trans (World.drewN_drewN _ _ _) (congrArg (World.drewN _) (Nat.add_assoc _ _ _))⟩)) | (go_at_call 14; (with_reducible refine (points_Right.calls k _ _ l0 true _ ?side1 ?side2 A126.out).mono ?_); (case side1 => repeat (first | exact (Kd.C_below HR0.out (by repeat (first | (with_reducible first | exact HB.out | apply below_alloc | apply pw_below_drewN | apply below_drew1 | refine below_set ?_ GE278.out) | exact HB.out))) | (with_reducible refine Kd.C_alloc ?_ _) | (with_reducible refine Kd.C_drewN ?_ _) | (with_reducible refine Kd.C_drew ?_))); (case side2 => exact HC0.out); rintro e w133 ⟨rfl, hb⟩; have n0_ := Aside0.mk (Kd.V_below (by (with_reducible repeat (first | apply Kd.V_alloc | apply Kd.V_drewN | apply Kd.V_drew)); exact HO284.out) hb); have n1_ := Aside0.mk (blk_below (g := gb278) (o := .cells #[.int .i64 a1_0, .int .u64 a1_1, .int .u64 a1_2] 25 (0, 0)) (by (with_reducible repeat (first | refine blk_drewN ?_ _ | refine blk_drew ?_ | refine blk_alloc ?_ _)); exact BK278.out) hb); have n2_ := Aside0.mk (below_step (by repeat (first | (with_reducible first | exact HB.out | apply below_alloc | apply pw_below_drewN | apply below_drew1 | refine below_set ?_ GE278.out) | exact HB.out)) hb); clear HO284; clear BK278; clear HB; have HO284 := n0_; have BK278 := n1_; have HB := n2_; clear n0_ n1_ n2_; (try clear hb); (try clear hb2); (try clear hk); (try clear hi); have hcz134_0 : w133.cell? ⟨gb278, 0, none⟩ = some (.int .i64 a1_0) := (blk_cell BK278.out 0).trans rfl; have hcz134_1 : w133.cell? ⟨gb278, 1, none⟩ = some (.int .u64 a1_1) := (blk_cell BK278.out 1).trans rfl; have hcz134_2 : w133.cell? ⟨gb278, 2, none⟩ = some (.int .u64 a1_2) := (blk_cell BK278.out 2).trans rfl; have hfz134_0 := blk_frozen BK278.out 0; have hfz134_1 := blk_frozen BK278.out 1; have hfz134_2 := blk_frozen BK278.out 2)))
            go_ret
            exact ⟨by first | rfl | (simp [errW_none, errW_some] <;> rfl) | (simp [*, errW_none, errW_some] <;> rfl), by repeat (first | (with_reducible first | exact HB.out | apply below_alloc | apply pw_below_drewN | apply below_drew1 | refine below_set ?_ GE278.out) | exact HB.out)⟩
          · replace c127 := Bool.eq_false_iff.mpr c127
            subst c127
            have H1 : (some true) = some r := by rw [if_neg (show ¬ (false = true) by decide)] at H; exact H
            clear H
            have H := H1
            clear H1
            obtain rfl := Option.some.inj H
            go_enter Try.func6, Try.ntmps6
            go_wp2_with (first | ((with_reducible refine gate_dst (N := 3) rfl ?_); (try (refine gate_guard (by rfl) ?_; dsimp only)); refine box_event ?hg (N := 3) ?hd (cs := #[.int .i64 a1_0, .int .u64 a1_1, .int .u64 a1_2]) (t := 25) ?hr ?_; (case hd => rfl); (case hg => rfl); (case hr => first | (go_simp; done) | (go_simp; rfl)); intro gb278 hg w135 hbox hb; have n0_ := Aside0.mk (below_step (by repeat (first | (with_reducible first | exact HB.out | apply below_alloc | apply pw_below_drewN | apply below_drew1) | exact HB.out)) hb); have n1_ := Aside0.mk (hbox); have n2_ := Aside0.mk ((by rw [hg]; exact (below_size (by repeat (first | (with_reducible first | exact HB.out | apply below_alloc | apply pw_below_drewN | apply below_drew1) | exact HB.out))) : w.heap.size ≤ gb278)); have n3_ := Aside0.mk ((by rw [hg]; exact (below_size (by repeat (first | (with_reducible first | exact HB.out | apply below_alloc | apply pw_below_drewN | apply below_drew1) | exact HB.out))) : w.heap.size ≤ gb278)); clear HB; have HB := n0_; have BK278 := n1_; have GW278 := n2_; have GE278 := n3_; clear n0_ n1_ n2_ n3_; clear hb hbox hg) | (go_at_call 12; (with_reducible refine (manometerlaw09_live.calls k  true _ A3.out).mono ?_); rintro e w136 ⟨rfl, hb⟩; have n0_ := Aside0.mk (blk_below (g := gb278) (o := .cells #[.int .i64 a1_0, .int .u64 a1_1, .int .u64 a1_2] 25 (0, 0)) (by (with_reducible repeat (first | refine blk_drewN ?_ _ | refine blk_drew ?_ | refine blk_alloc ?_ _)); exact BK278.out) hb); have n1_ := Aside0.mk (below_step (by repeat (first | (with_reducible first | exact HB.out | apply below_alloc | apply pw_below_drewN | apply below_drew1 | refine below_set ?_ GE278.out) | exact HB.out)) hb); clear BK278; clear HB; have BK278 := n0_; have HB := n1_; clear n0_ n1_; (try clear hb); (try clear hb2); (try clear hk); (try clear hi)) | (go_at_call 13; (with_reducible refine (manometerlaw09_few.calls _ _ l0 true _ ?side1 ?side2 A5.out).mono ?_); (case side1 => repeat (first | exact (Kd.C_below HR0.out HB.out) | (with_reducible refine Kd.C_alloc ?_ _) | (with_reducible refine Kd.C_drewN ?_ _) | (with_reducible refine Kd.C_drew ?_))); (case side2 => exact HC0.out); rintro e w' ⟨rfl, ⟨nd, rfl⟩⟩; (try first | exact ⟨rfl, _, World.drewN_drewN _ _ _⟩ | exact ⟨rfl, _, Eq.trans (World.drewN_drewN _ _ _) (congrArg (World.drewN _) (Nat.add_assoc _ _ _))⟩); have hcz137_0 : w136.cell? ⟨gb278, 0, none⟩ = some (.int .i64 a1_0) := (blk_cell BK278.out 0).trans rfl; have hcz137_1 : w136.cell? ⟨gb278, 1, none⟩ = some (.int .u64 a1_1) := (blk_cell BK278.out 1).trans rfl; have hcz137_2 : w136.cell? ⟨gb278, 2, none⟩ = some (.int .u64 a1_2) := (blk_cell BK278.out 2).trans rfl; have hfz137_0 := blk_frozen BK278.out 0; have hfz137_1 := blk_frozen BK278.out 1; have hfz137_2 := blk_frozen BK278.out 2) | (go_at_call 21; (with_reducible refine (points_Put.calls k (fun k_ => k_ < w.heap.size) _ _ l0 a1_0 a1_1 a1_2 t282 t285 t286 _ ?side1 A7.out).mono ?_); (case side1 => exact Kd.V_mk HC0.out (Kd.F_below (Kd.C_F k25_heap HR0.out) (by repeat (first | (with_reducible first | exact HB.out | apply below_alloc | apply pw_below_drewN | apply below_drew1 | refine below_set ?_ GE278.out) | exact HB.out)))); rintro e w138 ⟨v283, rfl, ho0, hb⟩; have n0_ := Aside0.mk (Kd.V_lower (Kd.V_mono (ok' := fun k_ => k_ ≠ gb278) ho0 (fun k_ hk_ => Or.elim hk_ (fun hs_ => fun e_ => Nat.not_le.2 hs_ (by rw [e_]; exact GW278.out)) (fun hn_ => (Kd.freshB (g := gb278) (o := .cells #[.int .i64 a1_0, .int .u64 a1_1, .int .u64 a1_2] 25 (0, 0)) (by (with_reducible repeat (first | refine blk_drewN ?_ _ | refine blk_drew ?_ | refine blk_alloc ?_ _)); exact BK278.out) k_ hn_)))) (below_size (by repeat (first | (with_reducible first | exact HB.out | apply below_alloc | apply pw_below_drewN | apply below_drew1 | refine below_set ?_ GE278.out) | exact HB.out)))); have n1_ := Aside0.mk (blk_below (g := gb278) (o := .cells #[.int .i64 a1_0, .int .u64 a1_1, .int .u64 a1_2] 25 (0, 0)) (by (with_reducible repeat (first | refine blk_drewN ?_ _ | refine blk_drew ?_ | refine blk_alloc ?_ _)); exact BK278.out) hb); have n2_ := Aside0.mk (below_step (by repeat (first | (with_reducible first | exact HB.out | apply below_alloc | apply pw_below_drewN | apply below_drew1 | refine below_set ?_ GE278.out) | exact HB.out)) hb); clear BK278; clear HB; have HO284 := n0_; have BK278 := n1_; have HB := n2_; clear n0_ n1_ n2_; (try clear hb); (try clear hb2); (try clear hk); (try clear hi); (try clear ho0); obtain ⟨Ao139, co139, eo139⟩ := Kd.V_slice HO284.out; subst eo139) | (go_at_call 23; (with_reducible refine (manometerref09_Same.calls k _ _ l0 _ _ t282 true _ ?side1 ?side2 ?side3 ?side4 A124.out).mono ?_); (case side1 => repeat (first | exact (Kd.C_below HR0.out HB.out) | (with_reducible refine Kd.C_alloc ?_ _) | (with_reducible refine Kd.C_drewN ?_ _) | (with_reducible refine Kd.C_drew ?_))); (case side2 => exact HC0.out); (case side3 => repeat (first | exact (Kd.V_reads' HO284.out).2.2 | (with_reducible refine Kd.C_alloc ?_ _) | (with_reducible refine Kd.C_drewN ?_ _) | (with_reducible refine Kd.C_drew ?_))); (case side4 => exact (Kd.V_reads' HO284.out).2.1); rintro e w' ⟨rfl, ⟨nd, rfl⟩⟩; (try first | exact ⟨rfl, _, World.drewN_drewN _ _ _⟩ | exact ⟨rfl, _, Eq.trans (World.drewN_drewN _ _ _) (congrArg (World.drewN _) (Nat.add_assoc _ _ _))⟩)) | (go_at_call 14; (with_reducible refine (points_Right.calls k _ _ l0 false _ ?side1 ?side2 A126.out).mono ?_); (case side1 => repeat (first | exact (Kd.C_below HR0.out (by repeat (first | (with_reducible first | exact HB.out | apply below_alloc | apply pw_below_drewN | apply below_drew1 | refine below_set ?_ GE278.out) | exact HB.out))) | (with_reducible refine Kd.C_alloc ?_ _) | (with_reducible refine Kd.C_drewN ?_ _) | (with_reducible refine Kd.C_drew ?_))); (case side2 => exact HC0.out); rintro e w140 ⟨rfl, hb⟩; have n0_ := Aside0.mk (Kd.V_below (by (with_reducible repeat (first | apply Kd.V_alloc | apply Kd.V_drewN | apply Kd.V_drew)); exact HO284.out) hb); have n1_ := Aside0.mk (blk_below (g := gb278) (o := .cells #[.int .i64 a1_0, .int .u64 a1_1, .int .u64 a1_2] 25 (0, 0)) (by (with_reducible repeat (first | refine blk_drewN ?_ _ | refine blk_drew ?_ | refine blk_alloc ?_ _)); exact BK278.out) hb); have n2_ := Aside0.mk (below_step (by repeat (first | (with_reducible first | exact HB.out | apply below_alloc | apply pw_below_drewN | apply below_drew1 | refine below_set ?_ GE278.out) | exact HB.out)) hb); clear HO284; clear BK278; clear HB; have HO284 := n0_; have BK278 := n1_; have HB := n2_; clear n0_ n1_ n2_; (try clear hb); (try clear hb2); (try clear hk); (try clear hi)))
            repeat (go_quiet (first | (go_at_call 13; (with_reducible refine (manometerlaw09_few.calls _ _ l0 true _ ?side1 ?side2 A5.out).mono ?_); (case side1 => repeat (first | exact (Kd.C_below HR0.out HB.out) | (with_reducible refine Kd.C_alloc ?_ _) | (with_reducible refine Kd.C_drewN ?_ _) | (with_reducible refine Kd.C_drew ?_))); (case side2 => exact HC0.out); rintro e w' ⟨rfl, ⟨nd, rfl⟩⟩; (try first | exact ⟨rfl, _, World.drewN_drewN _ _ _⟩ | exact ⟨rfl, _, Eq.trans (World.drewN_drewN _ _ _) (congrArg (World.drewN _) (Nat.add_assoc _ _ _))⟩); have hcz137_0 : w136.cell? ⟨gb278, 0, none⟩ = some (.int .i64 a1_0) := (blk_cell BK278.out 0).trans rfl; have hcz137_1 : w136.cell? ⟨gb278, 1, none⟩ = some (.int .u64 a1_1) := (blk_cell BK278.out 1).trans rfl; have hcz137_2 : w136.cell? ⟨gb278, 2, none⟩ = some (.int .u64 a1_2) := (blk_cell BK278.out 2).trans rfl; have hfz137_0 := blk_frozen BK278.out 0; have hfz137_1 := blk_frozen BK278.out 1; have hfz137_2 := blk_frozen BK278.out 2) | (go_at_call 23; (with_reducible refine (manometerref09_Same.calls k _ _ l0 _ _ t282 true _ ?side1 ?side2 ?side3 ?side4 A124.out).mono ?_); (case side1 => repeat (first | exact (Kd.C_below HR0.out HB.out) | (with_reducible refine Kd.C_alloc ?_ _) | (with_reducible refine Kd.C_drewN ?_ _) | (with_reducible refine Kd.C_drew ?_))); (case side2 => exact HC0.out); (case side3 => repeat (first | exact (Kd.V_reads' HO284.out).2.2 | (with_reducible refine Kd.C_alloc ?_ _) | (with_reducible refine Kd.C_drewN ?_ _) | (with_reducible refine Kd.C_drew ?_))); (case side4 => exact (Kd.V_reads' HO284.out).2.1); rintro e w' ⟨rfl, ⟨nd, rfl⟩⟩; (try first | exact ⟨rfl, _, World.drewN_drewN _ _ _⟩ | exact ⟨rfl, _, Eq.trans (World.drewN_drewN _ _ _) (congrArg (World.drewN _) (Nat.add_assoc _ _ _))⟩))); try go_wp2_with (first | ((with_reducible refine gate_dst (N := 3) rfl ?_); (try (refine gate_guard (by rfl) ?_; dsimp only)); refine box_event ?hg (N := 3) ?hd (cs := #[.int .i64 a1_0, .int .u64 a1_1, .int .u64 a1_2]) (t := 25) ?hr ?_; (case hd => rfl); (case hg => rfl); (case hr => first | (go_simp; done) | (go_simp; rfl)); intro gb278 hg w135 hbox hb; have n0_ := Aside0.mk (below_step (by repeat (first | (with_reducible first | exact HB.out | apply below_alloc | apply pw_below_drewN | apply below_drew1) | exact HB.out)) hb); have n1_ := Aside0.mk (hbox); have n2_ := Aside0.mk ((by rw [hg]; exact (below_size (by repeat (first | (with_reducible first | exact HB.out | apply below_alloc | apply pw_below_drewN | apply below_drew1) | exact HB.out))) : w.heap.size ≤ gb278)); have n3_ := Aside0.mk ((by rw [hg]; exact (below_size (by repeat (first | (with_reducible first | exact HB.out | apply below_alloc | apply pw_below_drewN | apply below_drew1) | exact HB.out))) : w.heap.size ≤ gb278)); clear HB; have HB := n0_; have BK278 := n1_; have GW278 := n2_; have GE278 := n3_; clear n0_ n1_ n2_ n3_; clear hb hbox hg) | (go_at_call 12; (with_reducible refine (manometerlaw09_live.calls k  true _ A3.out).mono ?_); rintro e w136 ⟨rfl, hb⟩; have n0_ := Aside0.mk (blk_below (g := gb278) (o := .cells #[.int .i64 a1_0, .int .u64 a1_1, .int .u64 a1_2] 25 (0, 0)) (by (with_reducible repeat (first | refine blk_drewN ?_ _ | refine blk_drew ?_ | refine blk_alloc ?_ _)); exact BK278.out) hb); have n1_ := Aside0.mk (below_step (by repeat (first | (with_reducible first | exact HB.out | apply below_alloc | apply pw_below_drewN | apply below_drew1 | refine below_set ?_ GE278.out) | exact HB.out)) hb); clear BK278; clear HB; have BK278 := n0_; have HB := n1_; clear n0_ n1_; (try clear hb); (try clear hb2); (try clear hk); (try clear hi)) | (go_at_call 13; (with_reducible refine (manometerlaw09_few.calls _ _ l0 true _ ?side1 ?side2 A5.out).mono ?_); (case side1 => repeat (first | exact (Kd.C_below HR0.out HB.out) | (with_reducible refine Kd.C_alloc ?_ _) | (with_reducible refine Kd.C_drewN ?_ _) | (with_reducible refine Kd.C_drew ?_))); (case side2 => exact HC0.out); rintro e w' ⟨rfl, ⟨nd, rfl⟩⟩; (try first | exact ⟨rfl, _, World.drewN_drewN _ _ _⟩ | exact ⟨rfl, _, Eq.trans (World.drewN_drewN _ _ _) (congrArg (World.drewN _) (Nat.add_assoc _ _ _))⟩); have hcz137_0 : w136.cell? ⟨gb278, 0, none⟩ = some (.int .i64 a1_0) := (blk_cell BK278.out 0).trans rfl; have hcz137_1 : w136.cell? ⟨gb278, 1, none⟩ = some (.int .u64 a1_1) := (blk_cell BK278.out 1).trans rfl; have hcz137_2 : w136.cell? ⟨gb278, 2, none⟩ = some (.int .u64 a1_2) := (blk_cell BK278.out 2).trans rfl; have hfz137_0 := blk_frozen BK278.out 0; have hfz137_1 := blk_frozen BK278.out 1; have hfz137_2 := blk_frozen BK278.out 2) | (go_at_call 21; (with_reducible refine (points_Put.calls k (fun k_ => k_ < w.heap.size) _ _ l0 a1_0 a1_1 a1_2 t282 t285 t286 _ ?side1 A7.out).mono ?_); (case side1 => exact Kd.V_mk HC0.out (Kd.F_below (Kd.C_F k25_heap HR0.out) (by repeat (first | (with_reducible first | exact HB.out | apply below_alloc | apply pw_below_drewN | apply below_drew1 | refine below_set ?_ GE278.out) | exact HB.out)))); rintro e w138 ⟨v283, rfl, ho0, hb⟩; have n0_ := Aside0.mk (Kd.V_lower (Kd.V_mono (ok' := fun k_ => k_ ≠ gb278) ho0 (fun k_ hk_ => Or.elim hk_ (fun hs_ => fun e_ => Nat.not_le.2 hs_ (by rw [e_]; exact GW278.out)) (fun hn_ => (Kd.freshB (g := gb278) (o := .cells #[.int .i64 a1_0, .int .u64 a1_1, .int .u64 a1_2] 25 (0, 0)) (by (with_reducible repeat (first | refine blk_drewN ?_ _ | refine blk_drew ?_ | refine blk_alloc ?_ _)); exact BK278.out) k_ hn_)))) (below_size (by repeat (first | (with_reducible first | exact HB.out | apply below_alloc | apply pw_below_drewN | apply below_drew1 | refine below_set ?_ GE278.out) | exact HB.out)))); have n1_ := Aside0.mk (blk_below (g := gb278) (o := .cells #[.int .i64 a1_0, .int .u64 a1_1, .int .u64 a1_2] 25 (0, 0)) (by (with_reducible repeat (first | refine blk_drewN ?_ _ | refine blk_drew ?_ | refine blk_alloc ?_ _)); exact BK278.out) hb); have n2_ := Aside0.mk (below_step (by repeat (first | (with_reducible first | exact HB.out | apply below_alloc | apply pw_below_drewN | apply below_drew1 | refine below_set ?_ GE278.out) | exact HB.out)) hb); clear BK278; clear HB; have HO284 := n0_; have BK278 := n1_; have HB := n2_; clear n0_ n1_ n2_; (try clear hb); (try clear hb2); (try clear hk); (try clear hi); (try clear ho0); obtain ⟨Ao139, co139, eo139⟩ := Kd.V_slice HO284.out; subst eo139) | (go_at_call 23; (with_reducible refine (manometerref09_Same.calls k _ _ l0 _ _ t282 true _ ?side1 ?side2 ?side3 ?side4 A124.out).mono ?_); (case side1 => repeat (first | exact (Kd.C_below HR0.out HB.out) | (with_reducible refine Kd.C_alloc ?_ _) | (with_reducible refine Kd.C_drewN ?_ _) | (with_reducible refine Kd.C_drew ?_))); (case side2 => exact HC0.out); (case side3 => repeat (first | exact (Kd.V_reads' HO284.out).2.2 | (with_reducible refine Kd.C_alloc ?_ _) | (with_reducible refine Kd.C_drewN ?_ _) | (with_reducible refine Kd.C_drew ?_))); (case side4 => exact (Kd.V_reads' HO284.out).2.1); rintro e w' ⟨rfl, ⟨nd, rfl⟩⟩; (try first | exact ⟨rfl, _, World.drewN_drewN _ _ _⟩ | exact ⟨rfl, _, Eq.trans (World.drewN_drewN _ _ _) (congrArg (World.drewN _) (Nat.add_assoc _ _ _))⟩)) | (go_at_call 14; (with_reducible refine (points_Right.calls k _ _ l0 false _ ?side1 ?side2 A126.out).mono ?_); (case side1 => repeat (first | exact (Kd.C_below HR0.out (by repeat (first | (with_reducible first | exact HB.out | apply below_alloc | apply pw_below_drewN | apply below_drew1 | refine below_set ?_ GE278.out) | exact HB.out))) | (with_reducible refine Kd.C_alloc ?_ _) | (with_reducible refine Kd.C_drewN ?_ _) | (with_reducible refine Kd.C_drew ?_))); (case side2 => exact HC0.out); rintro e w140 ⟨rfl, hb⟩; have n0_ := Aside0.mk (Kd.V_below (by (with_reducible repeat (first | apply Kd.V_alloc | apply Kd.V_drewN | apply Kd.V_drew)); exact HO284.out) hb); have n1_ := Aside0.mk (blk_below (g := gb278) (o := .cells #[.int .i64 a1_0, .int .u64 a1_1, .int .u64 a1_2] 25 (0, 0)) (by (with_reducible repeat (first | refine blk_drewN ?_ _ | refine blk_drew ?_ | refine blk_alloc ?_ _)); exact BK278.out) hb); have n2_ := Aside0.mk (below_step (by repeat (first | (with_reducible first | exact HB.out | apply below_alloc | apply pw_below_drewN | apply below_drew1 | refine below_set ?_ GE278.out) | exact HB.out)) hb); clear HO284; clear BK278; clear HB; have HO284 := n0_; have BK278 := n1_; have HB := n2_; clear n0_ n1_ n2_; (try clear hb); (try clear hb2); (try clear hk); (try clear hi))))
            go_ret
            exact ⟨by first | rfl | (simp [errW_none, errW_some] <;> rfl) | (simp [*, errW_none, errW_some] <;> rfl), by repeat (first | (with_reducible first | exact HB.out | apply below_alloc | apply pw_below_drewN | apply below_drew1 | refine below_set ?_ GE278.out) | exact HB.out)⟩
        · replace c125 := Bool.eq_false_iff.mpr c125
          subst c125
          have H1 : (some false) = some r := by rw [if_neg (show ¬ (false = true) by decide)] at H; exact H
          clear H
          have H := H1
          clear H1
          obtain rfl := Option.some.inj H
          exact absurd HT_r.out (by decide)
    · replace c6 := Bool.eq_false_iff.mpr c6
      subst c6
      have H1 : ((manometerlaw09_live.f k).bind fun t281 => (if t281 = true then (some t281) else (none))) = some r := by rw [if_neg (show ¬ (false = true) by decide)] at H; exact H
      clear H
      have H := H1
      clear H1
      replace H := Option.bind_eq_some_iff.mp H
      obtain ⟨t281, A1410, H⟩ := H
      replace H : (if t281 = true then (some t281) else (none)) = some r := H
      have A141 := Aside0.mk A1410
      clear A1410
      by_cases c142 : t281 = true
      · subst c142
        have H1 : (some true) = some r := by rw [if_pos rfl] at H; exact H
        clear H
        have H := H1
        clear H1
        obtain rfl := Option.some.inj H
        go_enter Try.func6, Try.ntmps6
        go_wp2_with (first | ((with_reducible refine gate_dst (N := 3) rfl ?_); (try (refine gate_guard (by rfl) ?_; dsimp only)); refine box_event ?hg (N := 3) ?hd (cs := #[.int .i64 a1_0, .int .u64 a1_1, .int .u64 a1_2]) (t := 25) ?hr ?_; (case hd => rfl); (case hg => rfl); (case hr => first | (go_simp; done) | (go_simp; rfl)); intro gb278 hg w143 hbox hb; have n0_ := Aside0.mk (below_step (by repeat (first | (with_reducible first | exact HB.out | apply below_alloc | apply pw_below_drewN | apply below_drew1) | exact HB.out)) hb); have n1_ := Aside0.mk (hbox); have n2_ := Aside0.mk ((by rw [hg]; exact (below_size (by repeat (first | (with_reducible first | exact HB.out | apply below_alloc | apply pw_below_drewN | apply below_drew1) | exact HB.out))) : w.heap.size ≤ gb278)); have n3_ := Aside0.mk ((by rw [hg]; exact (below_size (by repeat (first | (with_reducible first | exact HB.out | apply below_alloc | apply pw_below_drewN | apply below_drew1) | exact HB.out))) : w.heap.size ≤ gb278)); clear HB; have HB := n0_; have BK278 := n1_; have GW278 := n2_; have GE278 := n3_; clear n0_ n1_ n2_ n3_; clear hb hbox hg) | (go_at_call 12; (with_reducible refine (manometerlaw09_live.calls k  true _ A3.out).mono ?_); rintro e w144 ⟨rfl, hb⟩; have n0_ := Aside0.mk (blk_below (g := gb278) (o := .cells #[.int .i64 a1_0, .int .u64 a1_1, .int .u64 a1_2] 25 (0, 0)) (by (with_reducible repeat (first | refine blk_drewN ?_ _ | refine blk_drew ?_ | refine blk_alloc ?_ _)); exact BK278.out) hb); have n1_ := Aside0.mk (below_step (by repeat (first | (with_reducible first | exact HB.out | apply below_alloc | apply pw_below_drewN | apply below_drew1 | refine below_set ?_ GE278.out) | exact HB.out)) hb); clear BK278; clear HB; have BK278 := n0_; have HB := n1_; clear n0_ n1_; (try clear hb); (try clear hb2); (try clear hk); (try clear hi)) | (go_at_call 13; (with_reducible refine (manometerlaw09_few.calls _ _ l0 false _ ?side1 ?side2 A5.out).mono ?_); (case side1 => repeat (first | exact (Kd.C_below HR0.out HB.out) | (with_reducible refine Kd.C_alloc ?_ _) | (with_reducible refine Kd.C_drewN ?_ _) | (with_reducible refine Kd.C_drew ?_))); (case side2 => exact HC0.out); rintro e w' ⟨rfl, ⟨nd, rfl⟩⟩; (try first | exact ⟨rfl, _, World.drewN_drewN _ _ _⟩ | exact ⟨rfl, _, Eq.trans (World.drewN_drewN _ _ _) (congrArg (World.drewN _) (Nat.add_assoc _ _ _))⟩)) | (go_at_call 12; (with_reducible refine (manometerlaw09_live.calls k  true _ A141.out).mono ?_); rintro e w145 ⟨rfl, hb⟩; have n0_ := Aside0.mk (blk_below (g := gb278) (o := .cells #[.int .i64 a1_0, .int .u64 a1_1, .int .u64 a1_2] 25 (0, 0)) (by (with_reducible repeat (first | refine blk_drewN ?_ _ | refine blk_drew ?_ | refine blk_alloc ?_ _)); exact BK278.out) hb); have n1_ := Aside0.mk (below_step (by repeat (first | (with_reducible first | exact HB.out | apply below_alloc | apply pw_below_drewN | apply below_drew1 | refine below_set ?_ GE278.out) | exact HB.out)) hb); clear BK278; clear HB; have BK278 := n0_; have HB := n1_; clear n0_ n1_; (try clear hb); (try clear hb2); (try clear hk); (try clear hi)))
        repeat (go_quiet (first | (go_at_call 13; (with_reducible refine (manometerlaw09_few.calls _ _ l0 false _ ?side1 ?side2 A5.out).mono ?_); (case side1 => repeat (first | exact (Kd.C_below HR0.out HB.out) | (with_reducible refine Kd.C_alloc ?_ _) | (with_reducible refine Kd.C_drewN ?_ _) | (with_reducible refine Kd.C_drew ?_))); (case side2 => exact HC0.out); rintro e w' ⟨rfl, ⟨nd, rfl⟩⟩; (try first | exact ⟨rfl, _, World.drewN_drewN _ _ _⟩ | exact ⟨rfl, _, Eq.trans (World.drewN_drewN _ _ _) (congrArg (World.drewN _) (Nat.add_assoc _ _ _))⟩))); try go_wp2_with (first | ((with_reducible refine gate_dst (N := 3) rfl ?_); (try (refine gate_guard (by rfl) ?_; dsimp only)); refine box_event ?hg (N := 3) ?hd (cs := #[.int .i64 a1_0, .int .u64 a1_1, .int .u64 a1_2]) (t := 25) ?hr ?_; (case hd => rfl); (case hg => rfl); (case hr => first | (go_simp; done) | (go_simp; rfl)); intro gb278 hg w143 hbox hb; have n0_ := Aside0.mk (below_step (by repeat (first | (with_reducible first | exact HB.out | apply below_alloc | apply pw_below_drewN | apply below_drew1) | exact HB.out)) hb); have n1_ := Aside0.mk (hbox); have n2_ := Aside0.mk ((by rw [hg]; exact (below_size (by repeat (first | (with_reducible first | exact HB.out | apply below_alloc | apply pw_below_drewN | apply below_drew1) | exact HB.out))) : w.heap.size ≤ gb278)); have n3_ := Aside0.mk ((by rw [hg]; exact (below_size (by repeat (first | (with_reducible first | exact HB.out | apply below_alloc | apply pw_below_drewN | apply below_drew1) | exact HB.out))) : w.heap.size ≤ gb278)); clear HB; have HB := n0_; have BK278 := n1_; have GW278 := n2_; have GE278 := n3_; clear n0_ n1_ n2_ n3_; clear hb hbox hg) | (go_at_call 12; (with_reducible refine (manometerlaw09_live.calls k  true _ A3.out).mono ?_); rintro e w144 ⟨rfl, hb⟩; have n0_ := Aside0.mk (blk_below (g := gb278) (o := .cells #[.int .i64 a1_0, .int .u64 a1_1, .int .u64 a1_2] 25 (0, 0)) (by (with_reducible repeat (first | refine blk_drewN ?_ _ | refine blk_drew ?_ | refine blk_alloc ?_ _)); exact BK278.out) hb); have n1_ := Aside0.mk (below_step (by repeat (first | (with_reducible first | exact HB.out | apply below_alloc | apply pw_below_drewN | apply below_drew1 | refine below_set ?_ GE278.out) | exact HB.out)) hb); clear BK278; clear HB; have BK278 := n0_; have HB := n1_; clear n0_ n1_; (try clear hb); (try clear hb2); (try clear hk); (try clear hi)) | (go_at_call 13; (with_reducible refine (manometerlaw09_few.calls _ _ l0 false _ ?side1 ?side2 A5.out).mono ?_); (case side1 => repeat (first | exact (Kd.C_below HR0.out HB.out) | (with_reducible refine Kd.C_alloc ?_ _) | (with_reducible refine Kd.C_drewN ?_ _) | (with_reducible refine Kd.C_drew ?_))); (case side2 => exact HC0.out); rintro e w' ⟨rfl, ⟨nd, rfl⟩⟩; (try first | exact ⟨rfl, _, World.drewN_drewN _ _ _⟩ | exact ⟨rfl, _, Eq.trans (World.drewN_drewN _ _ _) (congrArg (World.drewN _) (Nat.add_assoc _ _ _))⟩)) | (go_at_call 12; (with_reducible refine (manometerlaw09_live.calls k  true _ A141.out).mono ?_); rintro e w145 ⟨rfl, hb⟩; have n0_ := Aside0.mk (blk_below (g := gb278) (o := .cells #[.int .i64 a1_0, .int .u64 a1_1, .int .u64 a1_2] 25 (0, 0)) (by (with_reducible repeat (first | refine blk_drewN ?_ _ | refine blk_drew ?_ | refine blk_alloc ?_ _)); exact BK278.out) hb); have n1_ := Aside0.mk (below_step (by repeat (first | (with_reducible first | exact HB.out | apply below_alloc | apply pw_below_drewN | apply below_drew1 | refine below_set ?_ GE278.out) | exact HB.out)) hb); clear BK278; clear HB; have BK278 := n0_; have HB := n1_; clear n0_ n1_; (try clear hb); (try clear hb2); (try clear hk); (try clear hi))))
        go_ret
        exact ⟨by first | rfl | (simp [errW_none, errW_some] <;> rfl) | (simp [*, errW_none, errW_some] <;> rfl), by repeat (first | (with_reducible first | exact HB.out | apply below_alloc | apply pw_below_drewN | apply below_drew1 | refine below_set ?_ GE278.out) | exact HB.out)⟩
      · replace c142 := Bool.eq_false_iff.mpr c142
        subst c142
        have H1 : (none) = some r := by rw [if_neg (show ¬ (false = true) by decide)] at H; exact H
        clear H
        have H := H1
        clear H1
        exact absurd H (by simp)
  · replace c4 := Bool.eq_false_iff.mpr c4
    subst c4
    have H1 : (none) = some r := by rw [if_neg (show ¬ (false = true) by decide)] at H; exact H
    clear H
    have H := H1
    clear H1
    exact absurd H (by simp)

end Go.Proofs.Ytfjhommpgbppjaa.Q
