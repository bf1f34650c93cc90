-- Laid by this session's turned edition of print.py out of the translation. Not trusted: Lean checks it.
import Derived.Test.YtfjhommpgbppjaaQ0
import Derived.Test.YtfjhommpgbppjaaV1
import Derived.Test.YtfjhommpgbppjaaV15
import Derived.Test.YtfjhommpgbppjaaV24
import Derived.Test.YtfjhommpgbppjaaV4
import Derived.Test.YtfjhommpgbppjaaV5
namespace Go.Proofs.Ytfjhommpgbppjaa.Q
open Go.RowKit Go.Proofs.YtfjhommpgbppjaaW.PrintWords Go.Proofs.YtfjhommpgbppjaaW.PrintLast Go.Proofs.YtfjhommpgbppjaaW.PrintMore
attribute [local go_sem] max2_int min2_int max_two min_two max_three min_three max_four min_four   -- for this text's walks alone
set_option linter.unusedVariables false
set_option linter.unusedSimpArgs false

/-! ### manometerlaw09_PointsOrder: function 9 -/
mutual
def manometerlaw09_PointsOrder.j0 : Nat → List (S25) → List (S25) → List (S25) → Bool → Option (Bool)
  | 0, _, _, _, _ => none
  | k + 1, x0, x1, x2, x50 => if x50 = true then ((manometerlaw09_live.f k).bind fun t490 => (if t490 = true then (some t490) else (none))) else ((points_Merge.f k x0 x1).bind fun bt491 => ((points_Merge.f k x1 x0).bind fun bt495 => ((points_Merge.f k x1 x2).bind fun bt499 => ((points_Merge.f k bt491.1 x2).bind fun bt503 => ((points_Merge.f k x0 bt499.1).bind fun bt507 => ((points_Merge.f k x0 x0).bind fun bt511 => (if bt491.2 = 0 then (if bt495.2 = 0 then (if bt499.2 = 0 then (if bt503.2 = 0 then (if bt507.2 = 0 then (manometerlaw09_PointsOrder.j1 k x0 bt491.1 bt495.1 bt503.1 bt507.1 bt511.1 (bt511.2 != 0)) else (manometerlaw09_PointsOrder.j1 k x0 bt491.1 bt495.1 bt503.1 bt507.1 bt511.1 true)) else (manometerlaw09_PointsOrder.j1 k x0 bt491.1 bt495.1 bt503.1 bt507.1 bt511.1 true)) else (manometerlaw09_PointsOrder.j1 k x0 bt491.1 bt495.1 bt503.1 bt507.1 bt511.1 true)) else (manometerlaw09_PointsOrder.j1 k x0 bt491.1 bt495.1 bt503.1 bt507.1 bt511.1 true)) else (manometerlaw09_PointsOrder.j1 k x0 bt491.1 bt495.1 bt503.1 bt507.1 bt511.1 true))))))))
def manometerlaw09_PointsOrder.j1 : Nat → List (S25) → List (S25) → List (S25) → List (S25) → List (S25) → List (S25) → Bool → Option (Bool)
  | 0, _, _, _, _, _, _, _ => none
  | k + 1, x0, x7, x9, x13, x15, x17, x109 => if x109 = true then (some false) else ((manometerref09_Same.f k x7 x9).bind fun t515 => (if t515 = true then ((manometerref09_Same.f k x13 x15).bind fun t516 => (if t516 = true then ((manometerref09_Same.f k x17 x0).bind fun t517 => (some t517)) else (some false))) else (some false)))
end
def manometerlaw09_PointsOrder.f (k : Nat) (l0 : List (S25)) (l1 : List (S25)) (l2 : List (S25)) : Option (Bool) := (manometerlaw09_live.f k).bind fun t483 => (if t483 = true then ((manometerlaw09_few.f l0).bind fun t484 => (if t484 = true then ((manometerlaw09_few.f l1).bind fun t485 => (if t485 = true then ((manometerlaw09_few.f l2).bind fun t486 => (if t486 = true then ((points_Right.f k l0).bind fun t487 => (if t487 = true then ((points_Right.f k l1).bind fun t488 => (if t488 = true then ((points_Right.f k l2).bind fun t489 => (manometerlaw09_PointsOrder.j0 k l0 l1 l2 (!t489))) else (manometerlaw09_PointsOrder.j0 k l0 l1 l2 true))) else (manometerlaw09_PointsOrder.j0 k l0 l1 l2 true))) else (manometerlaw09_PointsOrder.j0 k l0 l1 l2 true))) else (manometerlaw09_PointsOrder.j0 k l0 l1 l2 true))) else (manometerlaw09_PointsOrder.j0 k l0 l1 l2 true))) else (none))
theorem manometerlaw09_PointsOrder.mono_l : ∀ k, (∀ y0 y1 y2 y3, LeO (manometerlaw09_PointsOrder.j0 k y0 y1 y2 y3) (manometerlaw09_PointsOrder.j0 (k + 1) y0 y1 y2 y3)) ∧ (∀ y0 y1 y2 y3 y4 y5 y6, LeO (manometerlaw09_PointsOrder.j1 k y0 y1 y2 y3 y4 y5 y6) (manometerlaw09_PointsOrder.j1 (k + 1) y0 y1 y2 y3 y4 y5 y6))
  | 0 => ⟨fun _ _ _ _ r h => by simp [manometerlaw09_PointsOrder.j0] at h, fun _ _ _ _ _ _ _ r h => by simp [manometerlaw09_PointsOrder.j1] at h⟩
  | k + 1 => by
    obtain ⟨ih0, ih1⟩ := manometerlaw09_PointsOrder.mono_l k
    refine ⟨?_, ?_⟩
    · intro y0 y1 y2 y3
      unfold manometerlaw09_PointsOrder.j0
      repeat' first
      | (with_reducible exact ih0 _ _ _ _)
      | (with_reducible exact ih1 _ _ _ _ _ _ _)
      | (with_reducible exact manometerlaw09_live.mono _)
      | (with_reducible exact manometerref09_Same.mono _ _ _)
      | (with_reducible exact points_Merge.mono _ _ _)
      | (with_reducible exact points_Right.mono _ _)
      | (with_reducible exact LeO.refl _)
      | (with_reducible exact LeO.none _)
      | (with_reducible refine LeO.ite ?_ ?_)
      | (with_reducible refine LeO.bind ?_ (fun _ => ?_))
      | exact ih0 _ _ _ _
      | exact ih1 _ _ _ _ _ _ _
      | exact manometerlaw09_live.mono _
      | exact manometerref09_Same.mono _ _ _
      | exact points_Merge.mono _ _ _
      | exact points_Right.mono _ _
      | exact LeO.none _
      | refine LeO.ite ?_ ?_
      | refine LeO.bind ?_ (fun _ => ?_)
    · intro y0 y1 y2 y3 y4 y5 y6
      unfold manometerlaw09_PointsOrder.j1
      repeat' first
      | (with_reducible exact ih0 _ _ _ _)
      | (with_reducible exact ih1 _ _ _ _ _ _ _)
      | (with_reducible exact manometerlaw09_live.mono _)
      | (with_reducible exact manometerref09_Same.mono _ _ _)
      | (with_reducible exact points_Merge.mono _ _ _)
      | (with_reducible exact points_Right.mono _ _)
      | (with_reducible exact LeO.refl _)
      | (with_reducible exact LeO.none _)
      | (with_reducible refine LeO.ite ?_ ?_)
      | (with_reducible refine LeO.bind ?_ (fun _ => ?_))
      | exact ih0 _ _ _ _
      | exact ih1 _ _ _ _ _ _ _
      | exact manometerlaw09_live.mono _
      | exact manometerref09_Same.mono _ _ _
      | exact points_Merge.mono _ _ _
      | exact points_Right.mono _ _
      | exact LeO.none _
      | refine LeO.ite ?_ ?_
      | refine LeO.bind ?_ (fun _ => ?_)
theorem manometerlaw09_PointsOrder.mono : ∀ a0 a1 a2 k, LeO (manometerlaw09_PointsOrder.f k a0 a1 a2) (manometerlaw09_PointsOrder.f (k + 1) a0 a1 a2) := by
  intro a0 a1 a2 k
  obtain ⟨ih0, ih1⟩ := manometerlaw09_PointsOrder.mono_l k
  unfold manometerlaw09_PointsOrder.f
  repeat' first
      | (with_reducible exact ih0 _ _ _ _)
      | (with_reducible exact ih1 _ _ _ _ _ _ _)
      | (with_reducible exact manometerlaw09_live.mono _)
      | (with_reducible exact manometerref09_Same.mono _ _ _)
      | (with_reducible exact points_Merge.mono _ _ _)
      | (with_reducible exact points_Right.mono _ _)
      | (with_reducible exact LeO.refl _)
      | (with_reducible exact LeO.none _)
      | (with_reducible refine LeO.ite ?_ ?_)
      | (with_reducible refine LeO.bind ?_ (fun _ => ?_))
      | exact ih0 _ _ _ _
      | exact ih1 _ _ _ _ _ _ _
      | exact manometerlaw09_live.mono _
      | exact manometerref09_Same.mono _ _ _
      | exact points_Merge.mono _ _ _
      | exact points_Right.mono _ _
      | exact LeO.none _
      | refine LeO.ite ?_ ?_
      | refine LeO.bind ?_ (fun _ => ?_)
set_option maxHeartbeats 8000000 in
set_option maxRecDepth 100000 in
theorem manometerlaw09_PointsOrder.calls (k : Nat) (A0 : Option Addr) (c0 : Nat) (l0 : List (S25)) (A1 : Option Addr) (c1 : Nat) (l1 : List (S25)) (A2 : Option Addr) (c2 : Nat) (l2 : List (S25)) (r : Bool) (w : World) (hr0 : Kd.C k25 w A0 l0.length l0) (hc0 : l0.length ≤ c0) (hr1 : Kd.C k25 w A1 l1.length l1) (hc1 : l1.length ≤ c1) (hr2 : Kd.C k25 w A2 l2.length l2) (hc2 : l2.length ≤ c2) (hT : r = true) (h : manometerlaw09_PointsOrder.f k l0 l1 l2 = some r) :
    Calls Try.prog 9 #[.slice A0 l0.length c0, .slice A1 l1.length c1, .slice A2 l2.length c2] w fun e w' => e = .returned (.bool r) ∧ Below w.heap.size w w' := by
  have HR0 := Aside0.mk hr0
  have HC0 := Aside0.mk hc0
  clear hr0 hc0
  have HR1 := Aside0.mk hr1
  have HC1 := Aside0.mk hc1
  clear hr1 hc1
  have HR2 := Aside0.mk hr2
  have HC2 := Aside0.mk hc2
  clear hr2 hc2
  have HT_r := Aside0.mk hT
  clear hT
  have HB := Aside0.mk (Below.refl w.heap.size w)
  have H : ((manometerlaw09_live.f k).bind fun t483 => (if t483 = true then ((manometerlaw09_few.f l0).bind fun t484 => (if t484 = true then ((manometerlaw09_few.f l1).bind fun t485 => (if t485 = true then ((manometerlaw09_few.f l2).bind fun t486 => (if t486 = true then ((points_Right.f k l0).bind fun t487 => (if t487 = true then ((points_Right.f k l1).bind fun t488 => (if t488 = true then ((points_Right.f k l2).bind fun t489 => (manometerlaw09_PointsOrder.j0 k l0 l1 l2 (!t489))) else (manometerlaw09_PointsOrder.j0 k l0 l1 l2 true))) else (manometerlaw09_PointsOrder.j0 k l0 l1 l2 true))) else (manometerlaw09_PointsOrder.j0 k l0 l1 l2 true))) else (manometerlaw09_PointsOrder.j0 k l0 l1 l2 true))) else (manometerlaw09_PointsOrder.j0 k l0 l1 l2 true))) else (none))) = some r := h
  clear h
  have HC4 := Aside0.mk H
  clear H
  go_enter Try.func9, Try.ntmps9
  go_upto_region 1 with (fail)
  go_cut [50] (fun v50 wc => ∃ (kq : Nat) (x50_3 : Bool), v50 = .bool x50_3 ∧ Aside0 (manometerlaw09_PointsOrder.j0 kq l0 l1 l2 x50_3 = some r) ∧ Aside0 (kq ≤ k) ∧ Aside0 (Below w.heap.size w wc))
  case first =>
    have H := HC4.out
    clear HC4
    replace H := Option.bind_eq_some_iff.mp H
    obtain ⟨t483, A50, H⟩ := H
    replace H : (if t483 = true then ((manometerlaw09_few.f l0).bind fun t484 => (if t484 = true then ((manometerlaw09_few.f l1).bind fun t485 => (if t485 = true then ((manometerlaw09_few.f l2).bind fun t486 => (if t486 = true then ((points_Right.f k l0).bind fun t487 => (if t487 = true then ((points_Right.f k l1).bind fun t488 => (if t488 = true then ((points_Right.f k l2).bind fun t489 => (manometerlaw09_PointsOrder.j0 k l0 l1 l2 (!t489))) else (manometerlaw09_PointsOrder.j0 k l0 l1 l2 true))) else (manometerlaw09_PointsOrder.j0 k l0 l1 l2 true))) else (manometerlaw09_PointsOrder.j0 k l0 l1 l2 true))) else (manometerlaw09_PointsOrder.j0 k l0 l1 l2 true))) else (manometerlaw09_PointsOrder.j0 k l0 l1 l2 true))) else (none)) = some r := H
    have A5 := Aside0.mk A50
    clear A50
    by_cases c6 : t483 = true
    · subst c6
      have H1 : ((manometerlaw09_few.f l0).bind fun t484 => (if t484 = true then ((manometerlaw09_few.f l1).bind fun t485 => (if t485 = true then ((manometerlaw09_few.f l2).bind fun t486 => (if t486 = true then ((points_Right.f k l0).bind fun t487 => (if t487 = true then ((points_Right.f k l1).bind fun t488 => (if t488 = true then ((points_Right.f k l2).bind fun t489 => (manometerlaw09_PointsOrder.j0 k l0 l1 l2 (!t489))) else (manometerlaw09_PointsOrder.j0 k l0 l1 l2 true))) else (manometerlaw09_PointsOrder.j0 k l0 l1 l2 true))) else (manometerlaw09_PointsOrder.j0 k l0 l1 l2 true))) else (manometerlaw09_PointsOrder.j0 k l0 l1 l2 true))) else (manometerlaw09_PointsOrder.j0 k l0 l1 l2 true))) = some r := by rw [if_pos rfl] at H; exact H
      clear H
      have H := H1
      clear H1
      replace H := Option.bind_eq_some_iff.mp H
      obtain ⟨t484, A70, H⟩ := H
      replace H : (if t484 = true then ((manometerlaw09_few.f l1).bind fun t485 => (if t485 = true then ((manometerlaw09_few.f l2).bind fun t486 => (if t486 = true then ((points_Right.f k l0).bind fun t487 => (if t487 = true then ((points_Right.f k l1).bind fun t488 => (if t488 = true then ((points_Right.f k l2).bind fun t489 => (manometerlaw09_PointsOrder.j0 k l0 l1 l2 (!t489))) else (manometerlaw09_PointsOrder.j0 k l0 l1 l2 true))) else (manometerlaw09_PointsOrder.j0 k l0 l1 l2 true))) else (manometerlaw09_PointsOrder.j0 k l0 l1 l2 true))) else (manometerlaw09_PointsOrder.j0 k l0 l1 l2 true))) else (manometerlaw09_PointsOrder.j0 k l0 l1 l2 true)) = some r := H
      have A7 := Aside0.mk A70
      clear A70
      by_cases c8 : t484 = true
      · subst c8
        have H1 : ((manometerlaw09_few.f l1).bind fun t485 => (if t485 = true then ((manometerlaw09_few.f l2).bind fun t486 => (if t486 = true then ((points_Right.f k l0).bind fun t487 => (if t487 = true then ((points_Right.f k l1).bind fun t488 => (if t488 = true then ((points_Right.f k l2).bind fun t489 => (manometerlaw09_PointsOrder.j0 k l0 l1 l2 (!t489))) else (manometerlaw09_PointsOrder.j0 k l0 l1 l2 true))) else (manometerlaw09_PointsOrder.j0 k l0 l1 l2 true))) else (manometerlaw09_PointsOrder.j0 k l0 l1 l2 true))) else (manometerlaw09_PointsOrder.j0 k l0 l1 l2 true))) = some r := by rw [if_pos rfl] at H; exact H
        clear H
        have H := H1
        clear H1
        replace H := Option.bind_eq_some_iff.mp H
        obtain ⟨t485, A90, H⟩ := H
        replace H : (if t485 = true then ((manometerlaw09_few.f l2).bind fun t486 => (if t486 = true then ((points_Right.f k l0).bind fun t487 => (if t487 = true then ((points_Right.f k l1).bind fun t488 => (if t488 = true then ((points_Right.f k l2).bind fun t489 => (manometerlaw09_PointsOrder.j0 k l0 l1 l2 (!t489))) else (manometerlaw09_PointsOrder.j0 k l0 l1 l2 true))) else (manometerlaw09_PointsOrder.j0 k l0 l1 l2 true))) else (manometerlaw09_PointsOrder.j0 k l0 l1 l2 true))) else (manometerlaw09_PointsOrder.j0 k l0 l1 l2 true)) = some r := H
        have A9 := Aside0.mk A90
        clear A90
        by_cases c10 : t485 = true
        · subst c10
          have H1 : ((manometerlaw09_few.f l2).bind fun t486 => (if t486 = true then ((points_Right.f k l0).bind fun t487 => (if t487 = true then ((points_Right.f k l1).bind fun t488 => (if t488 = true then ((points_Right.f k l2).bind fun t489 => (manometerlaw09_PointsOrder.j0 k l0 l1 l2 (!t489))) else (manometerlaw09_PointsOrder.j0 k l0 l1 l2 true))) else (manometerlaw09_PointsOrder.j0 k l0 l1 l2 true))) else (manometerlaw09_PointsOrder.j0 k l0 l1 l2 true))) = some r := by rw [if_pos rfl] at H; exact H
          clear H
          have H := H1
          clear H1
          replace H := Option.bind_eq_some_iff.mp H
          obtain ⟨t486, A110, H⟩ := H
          replace H : (if t486 = true then ((points_Right.f k l0).bind fun t487 => (if t487 = true then ((points_Right.f k l1).bind fun t488 => (if t488 = true then ((points_Right.f k l2).bind fun t489 => (manometerlaw09_PointsOrder.j0 k l0 l1 l2 (!t489))) else (manometerlaw09_PointsOrder.j0 k l0 l1 l2 true))) else (manometerlaw09_PointsOrder.j0 k l0 l1 l2 true))) else (manometerlaw09_PointsOrder.j0 k l0 l1 l2 true)) = some r := H
          have A11 := Aside0.mk A110
          clear A110
          by_cases c12 : t486 = true
          · subst c12
            have H1 : ((points_Right.f k l0).bind fun t487 => (if t487 = true then ((points_Right.f k l1).bind fun t488 => (if t488 = true then ((points_Right.f k l2).bind fun t489 => (manometerlaw09_PointsOrder.j0 k l0 l1 l2 (!t489))) else (manometerlaw09_PointsOrder.j0 k l0 l1 l2 true))) else (manometerlaw09_PointsOrder.j0 k l0 l1 l2 true))) = some r := by rw [if_pos rfl] at H; exact H
            clear H
            have H := H1
            clear H1
            replace H := Option.bind_eq_some_iff.mp H
            obtain ⟨t487, A130, H⟩ := H
            replace H : (if t487 = true then ((points_Right.f k l1).bind fun t488 => (if t488 = true then ((points_Right.f k l2).bind fun t489 => (manometerlaw09_PointsOrder.j0 k l0 l1 l2 (!t489))) else (manometerlaw09_PointsOrder.j0 k l0 l1 l2 true))) else (manometerlaw09_PointsOrder.j0 k l0 l1 l2 true)) = some r := H
            have A13 := Aside0.mk A130
            clear A130
            by_cases c14 : t487 = true
            · subst c14
              have H1 : ((points_Right.f k l1).bind fun t488 => (if t488 = true then ((points_Right.f k l2).bind fun t489 => (manometerlaw09_PointsOrder.j0 k l0 l1 l2 (!t489))) else (manometerlaw09_PointsOrder.j0 k l0 l1 l2 true))) = some r := by rw [if_pos rfl] at H; exact H
              clear H
              have H := H1
              clear H1
              replace H := Option.bind_eq_some_iff.mp H
              obtain ⟨t488, A150, H⟩ := H
              replace H : (if t488 = true then ((points_Right.f k l2).bind fun t489 => (manometerlaw09_PointsOrder.j0 k l0 l1 l2 (!t489))) else (manometerlaw09_PointsOrder.j0 k l0 l1 l2 true)) = some r := H
              have A15 := Aside0.mk A150
              clear A150
              by_cases c16 : t488 = true
              · subst c16
                have H1 : ((points_Right.f k l2).bind fun t489 => (manometerlaw09_PointsOrder.j0 k l0 l1 l2 (!t489))) = some r := by rw [if_pos rfl] at H; exact H
                clear H
                have H := H1
                clear H1
                replace H := Option.bind_eq_some_iff.mp H
                obtain ⟨t489, A170, H⟩ := H
                replace H : (manometerlaw09_PointsOrder.j0 k l0 l1 l2 (!t489)) = some r := H
                have A17 := Aside0.mk A170
                clear A170
                have H' := Aside0.mk H
                clear H
                go_wp2_with (first | ((with_reducible refine gate_callee (f := 12) rfl ?_); refine goesL_ (some 19) rfl rfl Try.func12 (by kernel_rfl) rfl #[] rfl (by (try simp only [List.map_toArray, List.map_cons, List.map_nil]); first | done | rfl | (simp only [List.length_drop, List.length_take]; rfl)) ?_; (with_reducible refine (manometerlaw09_live.calls k  true _ A5.out).mono ?_); rintro e w18 ⟨rfl, hb⟩; refine ⟨_, rfl, ?_⟩; have n0_ := Aside0.mk (below_step (by repeat (first | (with_reducible first | exact HB.out | apply below_alloc | apply pw_below_drewN | apply below_drew1) | exact HB.out)) hb); clear HB; have HB := n0_; clear n0_; (try clear hb); (try clear hb2); (try clear hk); (try clear hi)) | (go_at_call 13; (with_reducible refine (manometerlaw09_few.calls _ _ l0 true _ ?side1 ?side2 A7.out).mono ?_); (case side1 => repeat (first | exact (Kd.C_below HR0.out HB.out) | (with_reducible refine Kd.C_alloc ?_ _) | (with_reducible refine Kd.C_drewN ?_ _) | (with_reducible refine Kd.C_drew ?_))); (case side2 => exact HC0.out); rintro e w' ⟨rfl, ⟨nd, rfl⟩⟩) | (go_at_call 13; (with_reducible refine (manometerlaw09_few.calls _ _ l1 true _ ?side1 ?side2 A9.out).mono ?_); (case side1 => repeat (first | exact (Kd.C_below HR1.out (by repeat (first | (with_reducible first | exact HB.out | apply below_alloc | apply pw_below_drewN | apply below_drew1) | exact HB.out))) | (with_reducible refine Kd.C_alloc ?_ _) | (with_reducible refine Kd.C_drewN ?_ _) | (with_reducible refine Kd.C_drew ?_))); (case side2 => exact HC1.out); rintro e w' ⟨rfl, ⟨nd, rfl⟩⟩) | (go_at_call 13; (with_reducible refine (manometerlaw09_few.calls _ _ l2 true _ ?side1 ?side2 A11.out).mono ?_); (case side1 => repeat (first | exact (Kd.C_below HR2.out (by repeat (first | (with_reducible first | exact HB.out | apply below_alloc | apply pw_below_drewN | apply below_drew1) | exact HB.out))) | (with_reducible refine Kd.C_alloc ?_ _) | (with_reducible refine Kd.C_drewN ?_ _) | (with_reducible refine Kd.C_drew ?_))); (case side2 => exact HC2.out); rintro e w' ⟨rfl, ⟨nd, rfl⟩⟩) | (go_at_call 14; (with_reducible refine (points_Right.calls k _ _ l0 true _ ?side1 ?side2 A13.out).mono ?_); (case side1 => repeat (first | exact (Kd.C_below HR0.out (by repeat (first | (with_reducible first | exact HB.out | apply below_alloc | apply pw_below_drewN | apply below_drew1) | exact HB.out))) | (with_reducible refine Kd.C_alloc ?_ _) | (with_reducible refine Kd.C_drewN ?_ _) | (with_reducible refine Kd.C_drew ?_))); (case side2 => exact HC0.out); rintro e w19 ⟨rfl, hb⟩; have n0_ := Aside0.mk (below_step (by repeat (first | (with_reducible first | exact HB.out | apply below_alloc | apply pw_below_drewN | apply below_drew1) | exact HB.out)) hb); clear HB; have HB := n0_; clear n0_; (try clear hb); (try clear hb2); (try clear hk); (try clear hi)) | (go_at_call 14; (with_reducible refine (points_Right.calls k _ _ l1 true _ ?side1 ?side2 A15.out).mono ?_); (case side1 => repeat (first | exact (Kd.C_below HR1.out HB.out) | (with_reducible refine Kd.C_alloc ?_ _) | (with_reducible refine Kd.C_drewN ?_ _) | (with_reducible refine Kd.C_drew ?_))); (case side2 => exact HC1.out); rintro e w20 ⟨rfl, hb⟩; have n0_ := Aside0.mk (below_step (by repeat (first | (with_reducible first | exact HB.out | apply below_alloc | apply pw_below_drewN | apply below_drew1) | exact HB.out)) hb); clear HB; have HB := n0_; clear n0_; (try clear hb); (try clear hb2); (try clear hk); (try clear hi)) | (go_at_call 14; (with_reducible refine (points_Right.calls k _ _ l2 t489 _ ?side1 ?side2 A17.out).mono ?_); (case side1 => repeat (first | exact (Kd.C_below HR2.out HB.out) | (with_reducible refine Kd.C_alloc ?_ _) | (with_reducible refine Kd.C_drewN ?_ _) | (with_reducible refine Kd.C_drew ?_))); (case side2 => exact HC2.out); rintro e w21 ⟨rfl, hb⟩; have n0_ := Aside0.mk (below_step (by repeat (first | (with_reducible first | exact HB.out | apply below_alloc | apply pw_below_drewN | apply below_drew1) | exact HB.out)) hb); clear HB; have HB := n0_; clear n0_; (try clear hb); (try clear hb2); (try clear hk); (try clear hi)))
                go_meet
                case rel => exact ⟨_, (!t489), (by first | rfl | (simp; done) | (simp [*]; done)), H', ⟨by first | omega | exact Nat.le_refl _⟩, ⟨by repeat (first | (with_reducible first | exact HB.out | apply below_alloc | apply pw_below_drewN | apply below_drew1) | exact HB.out)⟩⟩
              · replace c16 := Bool.eq_false_iff.mpr c16
                subst c16
                have H1 : (manometerlaw09_PointsOrder.j0 k l0 l1 l2 true) = some r := by rw [if_neg (show ¬ (false = true) by decide)] at H; exact H
                clear H
                have H := H1
                clear H1
                have H' := Aside0.mk H
                clear H
                go_wp2_with (first | ((with_reducible refine gate_callee (f := 12) rfl ?_); refine goesL_ (some 19) rfl rfl Try.func12 (by kernel_rfl) rfl #[] rfl (by (try simp only [List.map_toArray, List.map_cons, List.map_nil]); first | done | rfl | (simp only [List.length_drop, List.length_take]; rfl)) ?_; (with_reducible refine (manometerlaw09_live.calls k  true _ A5.out).mono ?_); rintro e w22 ⟨rfl, hb⟩; refine ⟨_, rfl, ?_⟩; have n0_ := Aside0.mk (below_step (by repeat (first | (with_reducible first | exact HB.out | apply below_alloc | apply pw_below_drewN | apply below_drew1) | exact HB.out)) hb); clear HB; have HB := n0_; clear n0_; (try clear hb); (try clear hb2); (try clear hk); (try clear hi)) | (go_at_call 13; (with_reducible refine (manometerlaw09_few.calls _ _ l0 true _ ?side1 ?side2 A7.out).mono ?_); (case side1 => repeat (first | exact (Kd.C_below HR0.out HB.out) | (with_reducible refine Kd.C_alloc ?_ _) | (with_reducible refine Kd.C_drewN ?_ _) | (with_reducible refine Kd.C_drew ?_))); (case side2 => exact HC0.out); rintro e w' ⟨rfl, ⟨nd, rfl⟩⟩) | (go_at_call 13; (with_reducible refine (manometerlaw09_few.calls _ _ l1 true _ ?side1 ?side2 A9.out).mono ?_); (case side1 => repeat (first | exact (Kd.C_below HR1.out (by repeat (first | (with_reducible first | exact HB.out | apply below_alloc | apply pw_below_drewN | apply below_drew1) | exact HB.out))) | (with_reducible refine Kd.C_alloc ?_ _) | (with_reducible refine Kd.C_drewN ?_ _) | (with_reducible refine Kd.C_drew ?_))); (case side2 => exact HC1.out); rintro e w' ⟨rfl, ⟨nd, rfl⟩⟩) | (go_at_call 13; (with_reducible refine (manometerlaw09_few.calls _ _ l2 true _ ?side1 ?side2 A11.out).mono ?_); (case side1 => repeat (first | exact (Kd.C_below HR2.out (by repeat (first | (with_reducible first | exact HB.out | apply below_alloc | apply pw_below_drewN | apply below_drew1) | exact HB.out))) | (with_reducible refine Kd.C_alloc ?_ _) | (with_reducible refine Kd.C_drewN ?_ _) | (with_reducible refine Kd.C_drew ?_))); (case side2 => exact HC2.out); rintro e w' ⟨rfl, ⟨nd, rfl⟩⟩) | (go_at_call 14; (with_reducible refine (points_Right.calls k _ _ l0 true _ ?side1 ?side2 A13.out).mono ?_); (case side1 => repeat (first | exact (Kd.C_below HR0.out (by repeat (first | (with_reducible first | exact HB.out | apply below_alloc | apply pw_below_drewN | apply below_drew1) | exact HB.out))) | (with_reducible refine Kd.C_alloc ?_ _) | (with_reducible refine Kd.C_drewN ?_ _) | (with_reducible refine Kd.C_drew ?_))); (case side2 => exact HC0.out); rintro e w23 ⟨rfl, hb⟩; have n0_ := Aside0.mk (below_step (by repeat (first | (with_reducible first | exact HB.out | apply below_alloc | apply pw_below_drewN | apply below_drew1) | exact HB.out)) hb); clear HB; have HB := n0_; clear n0_; (try clear hb); (try clear hb2); (try clear hk); (try clear hi)) | (go_at_call 14; (with_reducible refine (points_Right.calls k _ _ l1 false _ ?side1 ?side2 A15.out).mono ?_); (case side1 => repeat (first | exact (Kd.C_below HR1.out HB.out) | (with_reducible refine Kd.C_alloc ?_ _) | (with_reducible refine Kd.C_drewN ?_ _) | (with_reducible refine Kd.C_drew ?_))); (case side2 => exact HC1.out); rintro e w24 ⟨rfl, hb⟩; have n0_ := Aside0.mk (below_step (by repeat (first | (with_reducible first | exact HB.out | apply below_alloc | apply pw_below_drewN | apply below_drew1) | exact HB.out)) hb); clear HB; have HB := n0_; clear n0_; (try clear hb); (try clear hb2); (try clear hk); (try clear hi)))
                go_meet
                case rel => exact ⟨_, (true), (by first | rfl | (simp; done) | (simp [*]; done)), H', ⟨by first | omega | exact Nat.le_refl _⟩, ⟨by repeat (first | (with_reducible first | exact HB.out | apply below_alloc | apply pw_below_drewN | apply below_drew1) | exact HB.out)⟩⟩
            · replace c14 := Bool.eq_false_iff.mpr c14
              subst c14
              have H1 : (manometerlaw09_PointsOrder.j0 k l0 l1 l2 true) = some r := by rw [if_neg (show ¬ (false = true) by decide)] at H; exact H
              clear H
              have H := H1
              clear H1
              have H' := Aside0.mk H
              clear H
              go_wp2_with (first | ((with_reducible refine gate_callee (f := 12) rfl ?_); refine goesL_ (some 19) rfl rfl Try.func12 (by kernel_rfl) rfl #[] rfl (by (try simp only [List.map_toArray, List.map_cons, List.map_nil]); first | done | rfl | (simp only [List.length_drop, List.length_take]; rfl)) ?_; (with_reducible refine (manometerlaw09_live.calls k  true _ A5.out).mono ?_); rintro e w25 ⟨rfl, hb⟩; refine ⟨_, rfl, ?_⟩; have n0_ := Aside0.mk (below_step (by repeat (first | (with_reducible first | exact HB.out | apply below_alloc | apply pw_below_drewN | apply below_drew1) | exact HB.out)) hb); clear HB; have HB := n0_; clear n0_; (try clear hb); (try clear hb2); (try clear hk); (try clear hi)) | (go_at_call 13; (with_reducible refine (manometerlaw09_few.calls _ _ l0 true _ ?side1 ?side2 A7.out).mono ?_); (case side1 => repeat (first | exact (Kd.C_below HR0.out HB.out) | (with_reducible refine Kd.C_alloc ?_ _) | (with_reducible refine Kd.C_drewN ?_ _) | (with_reducible refine Kd.C_drew ?_))); (case side2 => exact HC0.out); rintro e w' ⟨rfl, ⟨nd, rfl⟩⟩) | (go_at_call 13; (with_reducible refine (manometerlaw09_few.calls _ _ l1 true _ ?side1 ?side2 A9.out).mono ?_); (case side1 => repeat (first | exact (Kd.C_below HR1.out (by repeat (first | (with_reducible first | exact HB.out | apply below_alloc | apply pw_below_drewN | apply below_drew1) | exact HB.out))) | (with_reducible refine Kd.C_alloc ?_ _) | (with_reducible refine Kd.C_drewN ?_ _) | (with_reducible refine Kd.C_drew ?_))); (case side2 => exact HC1.out); rintro e w' ⟨rfl, ⟨nd, rfl⟩⟩) | (go_at_call 13; (with_reducible refine (manometerlaw09_few.calls _ _ l2 true _ ?side1 ?side2 A11.out).mono ?_); (case side1 => repeat (first | exact (Kd.C_below HR2.out (by repeat (first | (with_reducible first | exact HB.out | apply below_alloc | apply pw_below_drewN | apply below_drew1) | exact HB.out))) | (with_reducible refine Kd.C_alloc ?_ _) | (with_reducible refine Kd.C_drewN ?_ _) | (with_reducible refine Kd.C_drew ?_))); (case side2 => exact HC2.out); rintro e w' ⟨rfl, ⟨nd, rfl⟩⟩) | (go_at_call 14; (with_reducible refine (points_Right.calls k _ _ l0 false _ ?side1 ?side2 A13.out).mono ?_); (case side1 => repeat (first | exact (Kd.C_below HR0.out (by repeat (first | (with_reducible first | exact HB.out | apply below_alloc | apply pw_below_drewN | apply below_drew1) | exact HB.out))) | (with_reducible refine Kd.C_alloc ?_ _) | (with_reducible refine Kd.C_drewN ?_ _) | (with_reducible refine Kd.C_drew ?_))); (case side2 => exact HC0.out); rintro e w26 ⟨rfl, hb⟩; have n0_ := Aside0.mk (below_step (by repeat (first | (with_reducible first | exact HB.out | apply below_alloc | apply pw_below_drewN | apply below_drew1) | exact HB.out)) hb); clear HB; have HB := n0_; clear n0_; (try clear hb); (try clear hb2); (try clear hk); (try clear hi)))
              go_meet
              case rel => exact ⟨_, (true), (by first | rfl | (simp; done) | (simp [*]; done)), H', ⟨by first | omega | exact Nat.le_refl _⟩, ⟨by repeat (first | (with_reducible first | exact HB.out | apply below_alloc | apply pw_below_drewN | apply below_drew1) | exact HB.out)⟩⟩
          · replace c12 := Bool.eq_false_iff.mpr c12
            subst c12
            have H1 : (manometerlaw09_PointsOrder.j0 k l0 l1 l2 true) = some r := by rw [if_neg (show ¬ (false = true) by decide)] at H; exact H
            clear H
            have H := H1
            clear H1
            have H' := Aside0.mk H
            clear H
            go_wp2_with (first | ((with_reducible refine gate_callee (f := 12) rfl ?_); refine goesL_ (some 19) rfl rfl Try.func12 (by kernel_rfl) rfl #[] rfl (by (try simp only [List.map_toArray, List.map_cons, List.map_nil]); first | done | rfl | (simp only [List.length_drop, List.length_take]; rfl)) ?_; (with_reducible refine (manometerlaw09_live.calls k  true _ A5.out).mono ?_); rintro e w27 ⟨rfl, hb⟩; refine ⟨_, rfl, ?_⟩; have n0_ := Aside0.mk (below_step (by repeat (first | (with_reducible first | exact HB.out | apply below_alloc | apply pw_below_drewN | apply below_drew1) | exact HB.out)) hb); clear HB; have HB := n0_; clear n0_; (try clear hb); (try clear hb2); (try clear hk); (try clear hi)) | (go_at_call 13; (with_reducible refine (manometerlaw09_few.calls _ _ l0 true _ ?side1 ?side2 A7.out).mono ?_); (case side1 => repeat (first | exact (Kd.C_below HR0.out HB.out) | (with_reducible refine Kd.C_alloc ?_ _) | (with_reducible refine Kd.C_drewN ?_ _) | (with_reducible refine Kd.C_drew ?_))); (case side2 => exact HC0.out); rintro e w' ⟨rfl, ⟨nd, rfl⟩⟩) | (go_at_call 13; (with_reducible refine (manometerlaw09_few.calls _ _ l1 true _ ?side1 ?side2 A9.out).mono ?_); (case side1 => repeat (first | exact (Kd.C_below HR1.out (by repeat (first | (with_reducible first | exact HB.out | apply below_alloc | apply pw_below_drewN | apply below_drew1) | exact HB.out))) | (with_reducible refine Kd.C_alloc ?_ _) | (with_reducible refine Kd.C_drewN ?_ _) | (with_reducible refine Kd.C_drew ?_))); (case side2 => exact HC1.out); rintro e w' ⟨rfl, ⟨nd, rfl⟩⟩) | (go_at_call 13; (with_reducible refine (manometerlaw09_few.calls _ _ l2 false _ ?side1 ?side2 A11.out).mono ?_); (case side1 => repeat (first | exact (Kd.C_below HR2.out (by repeat (first | (with_reducible first | exact HB.out | apply below_alloc | apply pw_below_drewN | apply below_drew1) | exact HB.out))) | (with_reducible refine Kd.C_alloc ?_ _) | (with_reducible refine Kd.C_drewN ?_ _) | (with_reducible refine Kd.C_drew ?_))); (case side2 => exact HC2.out); rintro e w' ⟨rfl, ⟨nd, rfl⟩⟩))
            go_meet
            case rel => exact ⟨_, (true), (by first | rfl | (simp; done) | (simp [*]; done)), H', ⟨by first | omega | exact Nat.le_refl _⟩, ⟨by repeat (first | (with_reducible first | exact HB.out | apply below_alloc | apply pw_below_drewN | apply below_drew1) | exact HB.out)⟩⟩
        · replace c10 := Bool.eq_false_iff.mpr c10
          subst c10
          have H1 : (manometerlaw09_PointsOrder.j0 k l0 l1 l2 true) = some r := by rw [if_neg (show ¬ (false = true) by decide)] at H; exact H
          clear H
          have H := H1
          clear H1
          have H' := Aside0.mk H
          clear H
          go_wp2_with (first | ((with_reducible refine gate_callee (f := 12) rfl ?_); refine goesL_ (some 19) rfl rfl Try.func12 (by kernel_rfl) rfl #[] rfl (by (try simp only [List.map_toArray, List.map_cons, List.map_nil]); first | done | rfl | (simp only [List.length_drop, List.length_take]; rfl)) ?_; (with_reducible refine (manometerlaw09_live.calls k  true _ A5.out).mono ?_); rintro e w28 ⟨rfl, hb⟩; refine ⟨_, rfl, ?_⟩; have n0_ := Aside0.mk (below_step (by repeat (first | (with_reducible first | exact HB.out | apply below_alloc | apply pw_below_drewN | apply below_drew1) | exact HB.out)) hb); clear HB; have HB := n0_; clear n0_; (try clear hb); (try clear hb2); (try clear hk); (try clear hi)) | (go_at_call 13; (with_reducible refine (manometerlaw09_few.calls _ _ l0 true _ ?side1 ?side2 A7.out).mono ?_); (case side1 => repeat (first | exact (Kd.C_below HR0.out HB.out) | (with_reducible refine Kd.C_alloc ?_ _) | (with_reducible refine Kd.C_drewN ?_ _) | (with_reducible refine Kd.C_drew ?_))); (case side2 => exact HC0.out); rintro e w' ⟨rfl, ⟨nd, rfl⟩⟩) | (go_at_call 13; (with_reducible refine (manometerlaw09_few.calls _ _ l1 false _ ?side1 ?side2 A9.out).mono ?_); (case side1 => repeat (first | exact (Kd.C_below HR1.out (by repeat (first | (with_reducible first | exact HB.out | apply below_alloc | apply pw_below_drewN | apply below_drew1) | exact HB.out))) | (with_reducible refine Kd.C_alloc ?_ _) | (with_reducible refine Kd.C_drewN ?_ _) | (with_reducible refine Kd.C_drew ?_))); (case side2 => exact HC1.out); rintro e w' ⟨rfl, ⟨nd, rfl⟩⟩))
          go_meet
          case rel => exact ⟨_, (true), (by first | rfl | (simp; done) | (simp [*]; done)), H', ⟨by first | omega | exact Nat.le_refl _⟩, ⟨by repeat (first | (with_reducible first | exact HB.out | apply below_alloc | apply pw_below_drewN | apply below_drew1) | exact HB.out)⟩⟩
      · replace c8 := Bool.eq_false_iff.mpr c8
        subst c8
        have H1 : (manometerlaw09_PointsOrder.j0 k l0 l1 l2 true) = some r := by rw [if_neg (show ¬ (false = true) by decide)] at H; exact H
        clear H
        have H := H1
        clear H1
        have H' := Aside0.mk H
        clear H
        go_wp2_with (first | ((with_reducible refine gate_callee (f := 12) rfl ?_); refine goesL_ (some 19) rfl rfl Try.func12 (by kernel_rfl) rfl #[] rfl (by (try simp only [List.map_toArray, List.map_cons, List.map_nil]); first | done | rfl | (simp only [List.length_drop, List.length_take]; rfl)) ?_; (with_reducible refine (manometerlaw09_live.calls k  true _ A5.out).mono ?_); rintro e w29 ⟨rfl, hb⟩; refine ⟨_, rfl, ?_⟩; have n0_ := Aside0.mk (below_step (by repeat (first | (with_reducible first | exact HB.out | apply below_alloc | apply pw_below_drewN | apply below_drew1) | exact HB.out)) hb); clear HB; have HB := n0_; clear n0_; (try clear hb); (try clear hb2); (try clear hk); (try clear hi)) | (go_at_call 13; (with_reducible refine (manometerlaw09_few.calls _ _ l0 false _ ?side1 ?side2 A7.out).mono ?_); (case side1 => repeat (first | exact (Kd.C_below HR0.out HB.out) | (with_reducible refine Kd.C_alloc ?_ _) | (with_reducible refine Kd.C_drewN ?_ _) | (with_reducible refine Kd.C_drew ?_))); (case side2 => exact HC0.out); rintro e w' ⟨rfl, ⟨nd, rfl⟩⟩))
        go_meet
        case rel => exact ⟨_, (true), (by first | rfl | (simp; done) | (simp [*]; done)), H', ⟨by first | omega | exact Nat.le_refl _⟩, ⟨by repeat (first | (with_reducible first | exact HB.out | apply below_alloc | apply pw_below_drewN | apply below_drew1) | exact HB.out)⟩⟩
    · replace c6 := Bool.eq_false_iff.mpr c6
      subst c6
      have H1 : (none) = some r := by rw [if_neg (show ¬ (false = true) by decide)] at H; exact H
      clear H
      have H := H1
      clear H1
      exact absurd H (by simp)
  case rest =>
    clear HC4
    try clear c1
    try clear c2
    try clear p2
    try clear c6
    try clear c8
    try clear c9
    try clear c10
    try clear c12
    try clear c14
    try clear c16
    obtain ⟨kq, x50_3, rfl, HA, HJ3, HB⟩ := hcut
    cases kq with
    | zero => exact absurd HA.out (by simp [manometerlaw09_PointsOrder.j0])
    | succ kj3 =>
      have H := HA.out
      clear HA
      simp only [manometerlaw09_PointsOrder.j0] at H
      by_cases c30 : x50_3 = true
      · subst c30
        have H1 : ((manometerlaw09_live.f kj3).bind fun t490 => (if t490 = true then (some t490) else (none))) = some r := by rw [if_pos rfl] at H; exact H
        clear H
        have H := H1
        clear H1
        replace H := Option.bind_eq_some_iff.mp H
        obtain ⟨t490, A310, H⟩ := H
        replace H : (if t490 = true then (some t490) else (none)) = some r := H
        have A31 := Aside0.mk A310
        clear A310
        by_cases c32 : t490 = true
        · subst c32
          have H1 : (some true) = some r := by rw [if_pos rfl] at H; exact H
          clear H
          have H := H1
          clear H1
          obtain rfl := Option.some.inj H
          go_wp2_with (first | ((with_reducible refine gate_callee (f := 12) rfl ?_); refine goesL_ (some 51) rfl rfl Try.func12 (by kernel_rfl) rfl #[] rfl (by (try simp only [List.map_toArray, List.map_cons, List.map_nil]); first | done | rfl | (simp only [List.length_drop, List.length_take]; rfl)) ?_; (with_reducible refine (manometerlaw09_live.calls kj3  true _ A31.out).mono ?_); rintro e w33 ⟨rfl, hb⟩; refine ⟨_, rfl, ?_⟩; have n0_ := Aside0.mk (below_step (by repeat (first | (with_reducible first | exact HB.out | apply below_alloc | apply pw_below_drewN | apply below_drew1) | exact HB.out)) hb); clear HB; have HB := n0_; clear n0_; (try clear hb); (try clear hb2); (try clear hk); (try clear hi)))
          go_ret
          exact ⟨by first | rfl | (simp [errW_none, errW_some] <;> rfl) | (simp [*, errW_none, errW_some] <;> rfl), by repeat (first | (with_reducible first | exact HB.out | apply below_alloc | apply pw_below_drewN | apply below_drew1) | exact HB.out)⟩
        · replace c32 := Bool.eq_false_iff.mpr c32
          subst c32
          have H1 : (none) = some r := by rw [if_neg (show ¬ (false = true) by decide)] at H; exact H
          clear H
          have H := H1
          clear H1
          exact absurd H (by simp)
      · replace c30 := Bool.eq_false_iff.mpr c30
        subst c30
        have H1 : ((points_Merge.f kj3 l0 l1).bind fun bt491 => ((points_Merge.f kj3 l1 l0).bind fun bt495 => ((points_Merge.f kj3 l1 l2).bind fun bt499 => ((points_Merge.f kj3 bt491.1 l2).bind fun bt503 => ((points_Merge.f kj3 l0 bt499.1).bind fun bt507 => ((points_Merge.f kj3 l0 l0).bind fun bt511 => (if bt491.2 = 0 then (if bt495.2 = 0 then (if bt499.2 = 0 then (if bt503.2 = 0 then (if bt507.2 = 0 then (manometerlaw09_PointsOrder.j1 kj3 l0 bt491.1 bt495.1 bt503.1 bt507.1 bt511.1 (bt511.2 != 0)) else (manometerlaw09_PointsOrder.j1 kj3 l0 bt491.1 bt495.1 bt503.1 bt507.1 bt511.1 true)) else (manometerlaw09_PointsOrder.j1 kj3 l0 bt491.1 bt495.1 bt503.1 bt507.1 bt511.1 true)) else (manometerlaw09_PointsOrder.j1 kj3 l0 bt491.1 bt495.1 bt503.1 bt507.1 bt511.1 true)) else (manometerlaw09_PointsOrder.j1 kj3 l0 bt491.1 bt495.1 bt503.1 bt507.1 bt511.1 true)) else (manometerlaw09_PointsOrder.j1 kj3 l0 bt491.1 bt495.1 bt503.1 bt507.1 bt511.1 true)))))))) = some r := by rw [if_neg (show ¬ (false = true) by decide)] at H; exact H
        clear H
        have H := H1
        clear H1
        replace H := Option.bind_eq_some_iff.mp H
        obtain ⟨⟨t491, t494⟩, A340, H⟩ := H
        replace H : ((points_Merge.f kj3 l1 l0).bind fun bt495 => ((points_Merge.f kj3 l1 l2).bind fun bt499 => ((points_Merge.f kj3 t491 l2).bind fun bt503 => ((points_Merge.f kj3 l0 bt499.1).bind fun bt507 => ((points_Merge.f kj3 l0 l0).bind fun bt511 => (if t494 = 0 then (if bt495.2 = 0 then (if bt499.2 = 0 then (if bt503.2 = 0 then (if bt507.2 = 0 then (manometerlaw09_PointsOrder.j1 kj3 l0 t491 bt495.1 bt503.1 bt507.1 bt511.1 (bt511.2 != 0)) else (manometerlaw09_PointsOrder.j1 kj3 l0 t491 bt495.1 bt503.1 bt507.1 bt511.1 true)) else (manometerlaw09_PointsOrder.j1 kj3 l0 t491 bt495.1 bt503.1 bt507.1 bt511.1 true)) else (manometerlaw09_PointsOrder.j1 kj3 l0 t491 bt495.1 bt503.1 bt507.1 bt511.1 true)) else (manometerlaw09_PointsOrder.j1 kj3 l0 t491 bt495.1 bt503.1 bt507.1 bt511.1 true)) else (manometerlaw09_PointsOrder.j1 kj3 l0 t491 bt495.1 bt503.1 bt507.1 bt511.1 true))))))) = some r := H
        have A34 := Aside0.mk A340
        clear A340
        replace H := Option.bind_eq_some_iff.mp H
        obtain ⟨⟨t495, t498⟩, A350, H⟩ := H
        replace H : ((points_Merge.f kj3 l1 l2).bind fun bt499 => ((points_Merge.f kj3 t491 l2).bind fun bt503 => ((points_Merge.f kj3 l0 bt499.1).bind fun bt507 => ((points_Merge.f kj3 l0 l0).bind fun bt511 => (if t494 = 0 then (if t498 = 0 then (if bt499.2 = 0 then (if bt503.2 = 0 then (if bt507.2 = 0 then (manometerlaw09_PointsOrder.j1 kj3 l0 t491 t495 bt503.1 bt507.1 bt511.1 (bt511.2 != 0)) else (manometerlaw09_PointsOrder.j1 kj3 l0 t491 t495 bt503.1 bt507.1 bt511.1 true)) else (manometerlaw09_PointsOrder.j1 kj3 l0 t491 t495 bt503.1 bt507.1 bt511.1 true)) else (manometerlaw09_PointsOrder.j1 kj3 l0 t491 t495 bt503.1 bt507.1 bt511.1 true)) else (manometerlaw09_PointsOrder.j1 kj3 l0 t491 t495 bt503.1 bt507.1 bt511.1 true)) else (manometerlaw09_PointsOrder.j1 kj3 l0 t491 t495 bt503.1 bt507.1 bt511.1 true)))))) = some r := H
        have A35 := Aside0.mk A350
        clear A350
        replace H := Option.bind_eq_some_iff.mp H
        obtain ⟨⟨t499, t502⟩, A360, H⟩ := H
        replace H : ((points_Merge.f kj3 t491 l2).bind fun bt503 => ((points_Merge.f kj3 l0 t499).bind fun bt507 => ((points_Merge.f kj3 l0 l0).bind fun bt511 => (if t494 = 0 then (if t498 = 0 then (if t502 = 0 then (if bt503.2 = 0 then (if bt507.2 = 0 then (manometerlaw09_PointsOrder.j1 kj3 l0 t491 t495 bt503.1 bt507.1 bt511.1 (bt511.2 != 0)) else (manometerlaw09_PointsOrder.j1 kj3 l0 t491 t495 bt503.1 bt507.1 bt511.1 true)) else (manometerlaw09_PointsOrder.j1 kj3 l0 t491 t495 bt503.1 bt507.1 bt511.1 true)) else (manometerlaw09_PointsOrder.j1 kj3 l0 t491 t495 bt503.1 bt507.1 bt511.1 true)) else (manometerlaw09_PointsOrder.j1 kj3 l0 t491 t495 bt503.1 bt507.1 bt511.1 true)) else (manometerlaw09_PointsOrder.j1 kj3 l0 t491 t495 bt503.1 bt507.1 bt511.1 true))))) = some r := H
        have A36 := Aside0.mk A360
        clear A360
        replace H := Option.bind_eq_some_iff.mp H
        obtain ⟨⟨t503, t506⟩, A370, H⟩ := H
        replace H : ((points_Merge.f kj3 l0 t499).bind fun bt507 => ((points_Merge.f kj3 l0 l0).bind fun bt511 => (if t494 = 0 then (if t498 = 0 then (if t502 = 0 then (if t506 = 0 then (if bt507.2 = 0 then (manometerlaw09_PointsOrder.j1 kj3 l0 t491 t495 t503 bt507.1 bt511.1 (bt511.2 != 0)) else (manometerlaw09_PointsOrder.j1 kj3 l0 t491 t495 t503 bt507.1 bt511.1 true)) else (manometerlaw09_PointsOrder.j1 kj3 l0 t491 t495 t503 bt507.1 bt511.1 true)) else (manometerlaw09_PointsOrder.j1 kj3 l0 t491 t495 t503 bt507.1 bt511.1 true)) else (manometerlaw09_PointsOrder.j1 kj3 l0 t491 t495 t503 bt507.1 bt511.1 true)) else (manometerlaw09_PointsOrder.j1 kj3 l0 t491 t495 t503 bt507.1 bt511.1 true)))) = some r := H
        have A37 := Aside0.mk A370
        clear A370
        replace H := Option.bind_eq_some_iff.mp H
        obtain ⟨⟨t507, t510⟩, A380, H⟩ := H
        replace H : ((points_Merge.f kj3 l0 l0).bind fun bt511 => (if t494 = 0 then (if t498 = 0 then (if t502 = 0 then (if t506 = 0 then (if t510 = 0 then (manometerlaw09_PointsOrder.j1 kj3 l0 t491 t495 t503 t507 bt511.1 (bt511.2 != 0)) else (manometerlaw09_PointsOrder.j1 kj3 l0 t491 t495 t503 t507 bt511.1 true)) else (manometerlaw09_PointsOrder.j1 kj3 l0 t491 t495 t503 t507 bt511.1 true)) else (manometerlaw09_PointsOrder.j1 kj3 l0 t491 t495 t503 t507 bt511.1 true)) else (manometerlaw09_PointsOrder.j1 kj3 l0 t491 t495 t503 t507 bt511.1 true)) else (manometerlaw09_PointsOrder.j1 kj3 l0 t491 t495 t503 t507 bt511.1 true))) = some r := H
        have A38 := Aside0.mk A380
        clear A380
        replace H := Option.bind_eq_some_iff.mp H
        obtain ⟨⟨t511, t514⟩, A390, H⟩ := H
        replace H : (if t494 = 0 then (if t498 = 0 then (if t502 = 0 then (if t506 = 0 then (if t510 = 0 then (manometerlaw09_PointsOrder.j1 kj3 l0 t491 t495 t503 t507 t511 (t514 != 0)) else (manometerlaw09_PointsOrder.j1 kj3 l0 t491 t495 t503 t507 t511 true)) else (manometerlaw09_PointsOrder.j1 kj3 l0 t491 t495 t503 t507 t511 true)) else (manometerlaw09_PointsOrder.j1 kj3 l0 t491 t495 t503 t507 t511 true)) else (manometerlaw09_PointsOrder.j1 kj3 l0 t491 t495 t503 t507 t511 true)) else (manometerlaw09_PointsOrder.j1 kj3 l0 t491 t495 t503 t507 t511 true)) = some r := H
        have A39 := Aside0.mk A390
        clear A390
        have HC40 := Aside0.mk H
        clear H
        go_upto_region 9 with (first | ((with_reducible refine gate_callee (f := 32) rfl ?_); refine goesL_ (some 55) rfl rfl Try.func32 (by kernel_rfl) rfl #[.slice A0 l0.length c0, .slice A1 l1.length c1] rfl (by (try simp only [List.map_toArray, List.map_cons, List.map_nil]); first | done | rfl | (simp only [List.length_drop, List.length_take]; rfl)) ?_; (with_reducible refine (points_Merge.calls kj3 (fun k_ => k_ < w.heap.size) _ _ l0 (fun k_ => k_ < w.heap.size) _ _ l1 t491 t494 _ ?side1 ?side2 A34.out).mono ?_); (case side1 => exact Kd.V_mk HC0.out (Kd.F_below (Kd.C_F k25_heap HR0.out) (by repeat (first | (with_reducible first | exact HB.out | apply below_alloc | apply pw_below_drewN | apply below_drew1) | exact HB.out)))); (case side2 => exact Kd.V_mk HC1.out (Kd.F_below (Kd.C_F k25_heap HR1.out) (by repeat (first | (with_reducible first | exact HB.out | apply below_alloc | apply pw_below_drewN | apply below_drew1) | exact HB.out)))); rintro e w41 ⟨v492, rfl, ho0, hb⟩; refine ⟨_, rfl, ?_⟩; have n0_ := Aside0.mk (Kd.R_lower (Kd.R_mono (ok' := fun k_ => True) ho0 (fun _ hk_ => trivial)) (below_size (by repeat (first | (with_reducible first | exact HB.out | apply below_alloc | apply pw_below_drewN | apply below_drew1) | exact HB.out)))); have n1_ := Aside0.mk (below_step (by repeat (first | (with_reducible first | exact HB.out | apply below_alloc | apply pw_below_drewN | apply below_drew1) | exact HB.out)) hb); clear HB; have HO493 := n0_; have HB := n1_; clear n0_ n1_; (try clear hb); (try clear hb2); (try clear hk); (try clear hi); (try clear ho0)) | ((with_reducible refine gate_callee (f := 32) rfl ?_); refine goesL_ (some 61) rfl rfl Try.func32 (by kernel_rfl) rfl #[.slice A1 l1.length c1, .slice A0 l0.length c0] rfl (by (try simp only [List.map_toArray, List.map_cons, List.map_nil]); first | done | rfl | (simp only [List.length_drop, List.length_take]; rfl)) ?_; (with_reducible refine (points_Merge.calls kj3 (fun k_ => k_ < w.heap.size) _ _ l1 (fun k_ => k_ < w.heap.size) _ _ l0 t495 t498 _ ?side1 ?side2 A35.out).mono ?_); (case side1 => exact Kd.V_mk HC1.out (Kd.F_below (Kd.C_F k25_heap HR1.out) (by repeat (first | (with_reducible first | exact HB.out | apply below_alloc | apply pw_below_drewN | apply below_drew1) | exact HB.out)))); (case side2 => exact Kd.V_mk HC0.out (Kd.F_below (Kd.C_F k25_heap HR0.out) (by repeat (first | (with_reducible first | exact HB.out | apply below_alloc | apply pw_below_drewN | apply below_drew1) | exact HB.out)))); rintro e w42 ⟨v496, rfl, ho0, hb⟩; refine ⟨_, rfl, ?_⟩; have n0_ := Aside0.mk (Kd.R_elder' (by (with_reducible repeat (first | apply Kd.R_alloc | apply Kd.R_drewN | apply Kd.R_drew)); exact HO493.out) (Kd.R_base ho0) hb); have n1_ := Aside0.mk (Kd.R_lower (Kd.R_new' (Kd.R_mono (ok' := fun k_ => True) ho0 (fun _ hk_ => trivial)) (Kd.R_lt (by (with_reducible repeat (first | apply Kd.R_alloc | apply Kd.R_drewN | apply Kd.R_drew)); exact HO493.out))) (below_size (by repeat (first | (with_reducible first | exact HB.out | apply below_alloc | apply pw_below_drewN | apply below_drew1) | exact HB.out)))); have n2_ := Aside0.mk (below_step (by repeat (first | (with_reducible first | exact HB.out | apply below_alloc | apply pw_below_drewN | apply below_drew1) | exact HB.out)) hb); clear HO493; clear HB; have HO493 := n0_; have HO497 := n1_; have HB := n2_; clear n0_ n1_ n2_; (try clear hb); (try clear hb2); (try clear hk); (try clear hi); (try clear ho0)) | ((with_reducible refine gate_callee (f := 32) rfl ?_); refine goesL_ (some 67) rfl rfl Try.func32 (by kernel_rfl) rfl #[.slice A1 l1.length c1, .slice A2 l2.length c2] rfl (by (try simp only [List.map_toArray, List.map_cons, List.map_nil]); first | done | rfl | (simp only [List.length_drop, List.length_take]; rfl)) ?_; (with_reducible refine (points_Merge.calls kj3 (fun k_ => k_ < w.heap.size) _ _ l1 (fun k_ => k_ < w.heap.size) _ _ l2 t499 t502 _ ?side1 ?side2 A36.out).mono ?_); (case side1 => exact Kd.V_mk HC1.out (Kd.F_below (Kd.C_F k25_heap HR1.out) (by repeat (first | (with_reducible first | exact HB.out | apply below_alloc | apply pw_below_drewN | apply below_drew1) | exact HB.out)))); (case side2 => exact Kd.V_mk HC2.out (Kd.F_below (Kd.C_F k25_heap HR2.out) (by repeat (first | (with_reducible first | exact HB.out | apply below_alloc | apply pw_below_drewN | apply below_drew1) | exact HB.out)))); rintro e w43 ⟨v500, rfl, ho0, hb⟩; refine ⟨_, rfl, ?_⟩; have n0_ := Aside0.mk (Kd.R_elder' (by (with_reducible repeat (first | apply Kd.R_alloc | apply Kd.R_drewN | apply Kd.R_drew)); exact HO493.out) (Kd.R_base ho0) hb); have n1_ := Aside0.mk (Kd.R_elder' (by (with_reducible repeat (first | apply Kd.R_alloc | apply Kd.R_drewN | apply Kd.R_drew)); exact HO497.out) (Kd.R_base ho0) hb); have n2_ := Aside0.mk (Kd.R_lower (Kd.R_new' (Kd.R_new' (Kd.R_mono (ok' := fun k_ => True) ho0 (fun _ hk_ => trivial)) (Kd.R_lt (by (with_reducible repeat (first | apply Kd.R_alloc | apply Kd.R_drewN | apply Kd.R_drew)); exact HO493.out))) (Kd.R_lt (by (with_reducible repeat (first | apply Kd.R_alloc | apply Kd.R_drewN | apply Kd.R_drew)); exact HO497.out))) (below_size (by repeat (first | (with_reducible first | exact HB.out | apply below_alloc | apply pw_below_drewN | apply below_drew1) | exact HB.out)))); have n3_ := Aside0.mk (below_step (by repeat (first | (with_reducible first | exact HB.out | apply below_alloc | apply pw_below_drewN | apply below_drew1) | exact HB.out)) hb); clear HO493; clear HO497; clear HB; have HO493 := n0_; have HO497 := n1_; have HO501 := n2_; have HB := n3_; clear n0_ n1_ n2_ n3_; (try clear hb); (try clear hb2); (try clear hk); (try clear hi); (try clear ho0); obtain ⟨Ao44, co44, eo44⟩ := Kd.R_slice HO493.out; subst eo44) | ((with_reducible refine gate_callee (f := 32) rfl ?_); refine goesL_ (some 73) rfl rfl Try.func32 (by kernel_rfl) rfl #[.slice Ao44 t491.length co44, .slice A2 l2.length c2] rfl (by (try simp only [List.map_toArray, List.map_cons, List.map_nil]); first | done | rfl | (simp only [List.length_drop, List.length_take]; rfl)) ?_; (with_reducible refine (points_Merge.calls kj3 (fun k_ => some k_ = (.slice Ao44 t491.length co44 : Value).ownBlock) _ _ t491 (fun k_ => k_ < w.heap.size) _ _ l2 t503 t506 _ ?side1 ?side2 A37.out).mono ?_); (case side1 => exact Kd.R_V (Kd.R_tight rfl (HO493.out))); (case side2 => exact Kd.V_mk HC2.out (Kd.F_below (Kd.C_F k25_heap HR2.out) (by repeat (first | (with_reducible first | exact HB.out | apply below_alloc | apply pw_below_drewN | apply below_drew1) | exact HB.out)))); rintro e w45 ⟨v504, rfl, ho0, hb⟩; refine ⟨_, rfl, ?_⟩; have n0_ := Aside0.mk (Kd.R_elder' (by (with_reducible repeat (first | apply Kd.R_alloc | apply Kd.R_drewN | apply Kd.R_drew)); exact HO493.out) (Kd.R_base ho0) hb); have n1_ := Aside0.mk (Kd.R_elder' (by (with_reducible repeat (first | apply Kd.R_alloc | apply Kd.R_drewN | apply Kd.R_drew)); exact HO497.out) (Kd.R_base ho0) hb); have n2_ := Aside0.mk (Kd.R_elder' (by (with_reducible repeat (first | apply Kd.R_alloc | apply Kd.R_drewN | apply Kd.R_drew)); exact HO501.out) (Kd.R_base ho0) hb); have n3_ := Aside0.mk (Kd.R_lower (Kd.R_new' (Kd.R_new' (Kd.R_new' (Kd.R_mono (ok' := fun k_ => True) ho0 (fun _ hk_ => trivial)) (Kd.R_lt (by (with_reducible repeat (first | apply Kd.R_alloc | apply Kd.R_drewN | apply Kd.R_drew)); exact HO493.out))) (Kd.R_lt (by (with_reducible repeat (first | apply Kd.R_alloc | apply Kd.R_drewN | apply Kd.R_drew)); exact HO497.out))) (Kd.R_lt (by (with_reducible repeat (first | apply Kd.R_alloc | apply Kd.R_drewN | apply Kd.R_drew)); exact HO501.out))) (below_size (by repeat (first | (with_reducible first | exact HB.out | apply below_alloc | apply pw_below_drewN | apply below_drew1) | exact HB.out)))); have n4_ := Aside0.mk (below_step (by repeat (first | (with_reducible first | exact HB.out | apply below_alloc | apply pw_below_drewN | apply below_drew1) | exact HB.out)) hb); clear HO493; clear HO497; clear HO501; clear HB; have HO493 := n0_; have HO497 := n1_; have HO501 := n2_; have HO505 := n3_; have HB := n4_; clear n0_ n1_ n2_ n3_ n4_; (try clear hb); (try clear hb2); (try clear hk); (try clear hi); (try clear ho0); obtain ⟨Ao46, co46, eo46⟩ := Kd.R_slice HO501.out; subst eo46) | ((with_reducible refine gate_callee (f := 32) rfl ?_); refine goesL_ (some 79) rfl rfl Try.func32 (by kernel_rfl) rfl #[.slice A0 l0.length c0, .slice Ao46 t499.length co46] rfl (by (try simp only [List.map_toArray, List.map_cons, List.map_nil]); first | done | rfl | (simp only [List.length_drop, List.length_take]; rfl)) ?_; (with_reducible refine (points_Merge.calls kj3 (fun k_ => k_ < w.heap.size) _ _ l0 (fun k_ => some k_ = (.slice Ao46 t499.length co46 : Value).ownBlock) _ _ t499 t507 t510 _ ?side1 ?side2 A38.out).mono ?_); (case side1 => exact Kd.V_mk HC0.out (Kd.F_below (Kd.C_F k25_heap HR0.out) (by repeat (first | (with_reducible first | exact HB.out | apply below_alloc | apply pw_below_drewN | apply below_drew1) | exact HB.out)))); (case side2 => exact Kd.R_V (Kd.R_tight rfl (HO501.out))); rintro e w47 ⟨v508, rfl, ho0, hb⟩; refine ⟨_, rfl, ?_⟩; have n0_ := Aside0.mk (Kd.R_elder' (by (with_reducible repeat (first | apply Kd.R_alloc | apply Kd.R_drewN | apply Kd.R_drew)); exact HO493.out) (Kd.R_base ho0) hb); have n1_ := Aside0.mk (Kd.R_elder' (by (with_reducible repeat (first | apply Kd.R_alloc | apply Kd.R_drewN | apply Kd.R_drew)); exact HO497.out) (Kd.R_base ho0) hb); have n2_ := Aside0.mk (Kd.R_elder' (by (with_reducible repeat (first | apply Kd.R_alloc | apply Kd.R_drewN | apply Kd.R_drew)); exact HO501.out) (Kd.R_base ho0) hb); have n3_ := Aside0.mk (Kd.R_elder' (by (with_reducible repeat (first | apply Kd.R_alloc | apply Kd.R_drewN | apply Kd.R_drew)); exact HO505.out) (Kd.R_base ho0) hb); have n4_ := Aside0.mk (Kd.R_lower (Kd.R_new' (Kd.R_new' (Kd.R_new' (Kd.R_new' (Kd.R_mono (ok' := fun k_ => True) ho0 (fun _ hk_ => trivial)) (Kd.R_lt (by (with_reducible repeat (first | apply Kd.R_alloc | apply Kd.R_drewN | apply Kd.R_drew)); exact HO493.out))) (Kd.R_lt (by (with_reducible repeat (first | apply Kd.R_alloc | apply Kd.R_drewN | apply Kd.R_drew)); exact HO497.out))) (Kd.R_lt (by (with_reducible repeat (first | apply Kd.R_alloc | apply Kd.R_drewN | apply Kd.R_drew)); exact HO501.out))) (Kd.R_lt (by (with_reducible repeat (first | apply Kd.R_alloc | apply Kd.R_drewN | apply Kd.R_drew)); exact HO505.out))) (below_size (by repeat (first | (with_reducible first | exact HB.out | apply below_alloc | apply pw_below_drewN | apply below_drew1) | exact HB.out)))); have n5_ := Aside0.mk (below_step (by repeat (first | (with_reducible first | exact HB.out | apply below_alloc | apply pw_below_drewN | apply below_drew1) | exact HB.out)) hb); clear HO493; clear HO497; clear HO501; clear HO505; clear HB; have HO493 := n0_; have HO497 := n1_; have HO501 := n2_; have HO505 := n3_; have HO509 := n4_; have HB := n5_; clear n0_ n1_ n2_ n3_ n4_ n5_; (try clear hb); (try clear hb2); (try clear hk); (try clear hi); (try clear ho0)) | ((with_reducible refine gate_callee (f := 32) rfl ?_); refine goesL_ (some 85) rfl rfl Try.func32 (by kernel_rfl) rfl #[.slice A0 l0.length c0, .slice A0 l0.length c0] rfl (by (try simp only [List.map_toArray, List.map_cons, List.map_nil]); first | done | rfl | (simp only [List.length_drop, List.length_take]; rfl)) ?_; (with_reducible refine (points_Merge.calls kj3 (fun k_ => k_ < w.heap.size) _ _ l0 (fun k_ => k_ < w.heap.size) _ _ l0 t511 t514 _ ?side1 ?side2 A39.out).mono ?_); (case side1 => exact Kd.V_mk HC0.out (Kd.F_below (Kd.C_F k25_heap HR0.out) (by repeat (first | (with_reducible first | exact HB.out | apply below_alloc | apply pw_below_drewN | apply below_drew1) | exact HB.out)))); (case side2 => exact Kd.V_mk HC0.out (Kd.F_below (Kd.C_F k25_heap HR0.out) (by repeat (first | (with_reducible first | exact HB.out | apply below_alloc | apply pw_below_drewN | apply below_drew1) | exact HB.out)))); rintro e w48 ⟨v512, rfl, ho0, hb⟩; refine ⟨_, rfl, ?_⟩; have n0_ := Aside0.mk (Kd.R_elder' (by (with_reducible repeat (first | apply Kd.R_alloc | apply Kd.R_drewN | apply Kd.R_drew)); exact HO493.out) (Kd.R_base ho0) hb); have n1_ := Aside0.mk (Kd.R_elder' (by (with_reducible repeat (first | apply Kd.R_alloc | apply Kd.R_drewN | apply Kd.R_drew)); exact HO497.out) (Kd.R_base ho0) hb); have n2_ := Aside0.mk (Kd.R_elder' (by (with_reducible repeat (first | apply Kd.R_alloc | apply Kd.R_drewN | apply Kd.R_drew)); exact HO501.out) (Kd.R_base ho0) hb); have n3_ := Aside0.mk (Kd.R_elder' (by (with_reducible repeat (first | apply Kd.R_alloc | apply Kd.R_drewN | apply Kd.R_drew)); exact HO505.out) (Kd.R_base ho0) hb); have n4_ := Aside0.mk (Kd.R_elder' (by (with_reducible repeat (first | apply Kd.R_alloc | apply Kd.R_drewN | apply Kd.R_drew)); exact HO509.out) (Kd.R_base ho0) hb); have n5_ := Aside0.mk (Kd.R_lower (Kd.R_new' (Kd.R_new' (Kd.R_new' (Kd.R_new' (Kd.R_new' (Kd.R_mono (ok' := fun k_ => True) ho0 (fun _ hk_ => trivial)) (Kd.R_lt (by (with_reducible repeat (first | apply Kd.R_alloc | apply Kd.R_drewN | apply Kd.R_drew)); exact HO493.out))) (Kd.R_lt (by (with_reducible repeat (first | apply Kd.R_alloc | apply Kd.R_drewN | apply Kd.R_drew)); exact HO497.out))) (Kd.R_lt (by (with_reducible repeat (first | apply Kd.R_alloc | apply Kd.R_drewN | apply Kd.R_drew)); exact HO501.out))) (Kd.R_lt (by (with_reducible repeat (first | apply Kd.R_alloc | apply Kd.R_drewN | apply Kd.R_drew)); exact HO505.out))) (Kd.R_lt (by (with_reducible repeat (first | apply Kd.R_alloc | apply Kd.R_drewN | apply Kd.R_drew)); exact HO509.out))) (below_size (by repeat (first | (with_reducible first | exact HB.out | apply below_alloc | apply pw_below_drewN | apply below_drew1) | exact HB.out)))); have n6_ := Aside0.mk (below_step (by repeat (first | (with_reducible first | exact HB.out | apply below_alloc | apply pw_below_drewN | apply below_drew1) | exact HB.out)) hb); clear HO493; clear HO497; clear HO501; clear HO505; clear HO509; clear HB; have HO493 := n0_; have HO497 := n1_; have HO501 := n2_; have HO505 := n3_; have HO509 := n4_; have HO513 := n5_; have HB := n6_; clear n0_ n1_ n2_ n3_ n4_ n5_ n6_; (try clear hb); (try clear hb2); (try clear hk); (try clear hi); (try clear ho0)))
        (try simp only [Act.put, List.setIfInBounds_toArray, List.set_cons_zero, List.set_cons_succ])
        go_cut [109] (fun v109 wc => ∃ (kq : Nat) (x109_39 : Bool), v109 = .bool x109_39 ∧ Aside0 (manometerlaw09_PointsOrder.j1 kq l0 t491 t495 t503 t507 t511 x109_39 = some r) ∧ Aside0 (kq ≤ kj3) ∧ Aside0 (Kd.R k25 25 wc w.heap.size (fun k_ => some k_ ≠ (v496 : Value).ownBlock ∧ some k_ ≠ (v504 : Value).ownBlock ∧ some k_ ≠ (v508 : Value).ownBlock ∧ some k_ ≠ (v512 : Value).ownBlock) (.slice Ao44 t491.length co44) t491) ∧ Aside0 (Kd.R k25 25 wc w.heap.size (fun k_ => some k_ ≠ ((.slice Ao44 t491.length co44) : Value).ownBlock ∧ some k_ ≠ (v504 : Value).ownBlock ∧ some k_ ≠ (v508 : Value).ownBlock ∧ some k_ ≠ (v512 : Value).ownBlock) v496 t495) ∧ Aside0 (Kd.R k25 25 wc w.heap.size (fun k_ => some k_ ≠ ((.slice Ao44 t491.length co44) : Value).ownBlock ∧ some k_ ≠ (v496 : Value).ownBlock ∧ some k_ ≠ (v508 : Value).ownBlock ∧ some k_ ≠ (v512 : Value).ownBlock) v504 t503) ∧ Aside0 (Kd.R k25 25 wc w.heap.size (fun k_ => some k_ ≠ ((.slice Ao44 t491.length co44) : Value).ownBlock ∧ some k_ ≠ (v496 : Value).ownBlock ∧ some k_ ≠ (v504 : Value).ownBlock ∧ some k_ ≠ (v512 : Value).ownBlock) v508 t507) ∧ Aside0 (Kd.R k25 25 wc w.heap.size (fun k_ => some k_ ≠ ((.slice Ao44 t491.length co44) : Value).ownBlock ∧ some k_ ≠ (v496 : Value).ownBlock ∧ some k_ ≠ (v504 : Value).ownBlock ∧ some k_ ≠ (v508 : Value).ownBlock) v512 t511) ∧ Aside0 (Below w.heap.size w wc))
        case first =>
          have H := HC40.out
          clear HC40
          by_cases c49 : t494 = 0
          · rw [if_pos c49] at H
            have c49b0 : (t494 == 0) = true := beq_iff_eq.mpr c49
            have c49b1 : (t494 != 0) = false := bne_eq_false_iff_eq.mpr c49
            have EQc49 := Aside0.mk c49
            clear c49
            (first | rw [c49b0] | (simp only [i64_w, i32_w]; rw [c49b0]) | skip)
            by_cases c50 : t498 = 0
            · rw [if_pos c50] at H
              have c50b0 : (t498 == 0) = true := beq_iff_eq.mpr c50
              have c50b1 : (t498 != 0) = false := bne_eq_false_iff_eq.mpr c50
              have EQc50 := Aside0.mk c50
              clear c50
              by_cases c51 : t502 = 0
              · rw [if_pos c51] at H
                have c51b0 : (t502 == 0) = true := beq_iff_eq.mpr c51
                have c51b1 : (t502 != 0) = false := bne_eq_false_iff_eq.mpr c51
                have EQc51 := Aside0.mk c51
                clear c51
                by_cases c52 : t506 = 0
                · rw [if_pos c52] at H
                  have c52b0 : (t506 == 0) = true := beq_iff_eq.mpr c52
                  have c52b1 : (t506 != 0) = false := bne_eq_false_iff_eq.mpr c52
                  have EQc52 := Aside0.mk c52
                  clear c52
                  by_cases c53 : t510 = 0
                  · rw [if_pos c53] at H
                    have c53b0 : (t510 == 0) = true := beq_iff_eq.mpr c53
                    have c53b1 : (t510 != 0) = false := bne_eq_false_iff_eq.mpr c53
                    have EQc53 := Aside0.mk c53
                    clear c53
                    have H' := Aside0.mk H
                    clear H
                    go_wp2
                    obtain rfl := EQc49.out
                    obtain rfl := EQc50.out
                    obtain rfl := EQc51.out
                    obtain rfl := EQc52.out
                    obtain rfl := EQc53.out
                    go_meet
                    case rel => exact ⟨_, ((t514 != 0)), (by first | rfl | (simp; done) | (simp [*]; done)), H', ⟨by have := HJ3.out; first | omega | exact Nat.le_refl _⟩, ⟨by (with_reducible repeat (first | apply Kd.R_alloc | apply Kd.R_drewN | apply Kd.R_drew)); exact Kd.R_mono HO493.out (fun _ hk => ⟨hk.1.1.1.1.2, ⟨hk.1.1.2, ⟨hk.1.2, hk.2⟩⟩⟩)⟩, ⟨by (with_reducible repeat (first | apply Kd.R_alloc | apply Kd.R_drewN | apply Kd.R_drew)); exact Kd.R_mono HO497.out (fun _ hk => ⟨hk.1.1.1.1.2, ⟨hk.1.1.2, ⟨hk.1.2, hk.2⟩⟩⟩)⟩, ⟨by (with_reducible repeat (first | apply Kd.R_alloc | apply Kd.R_drewN | apply Kd.R_drew)); exact Kd.R_mono HO505.out (fun _ hk => ⟨hk.1.1.1.1.2, ⟨hk.1.1.1.2, ⟨hk.1.2, hk.2⟩⟩⟩)⟩, ⟨by (with_reducible repeat (first | apply Kd.R_alloc | apply Kd.R_drewN | apply Kd.R_drew)); exact Kd.R_mono HO509.out (fun _ hk => ⟨hk.1.1.1.1.2, ⟨hk.1.1.1.2, ⟨hk.1.2, hk.2⟩⟩⟩)⟩, ⟨by (with_reducible repeat (first | apply Kd.R_alloc | apply Kd.R_drewN | apply Kd.R_drew)); exact Kd.R_mono HO513.out (fun _ hk => ⟨hk.1.1.1.1.2, ⟨hk.1.1.1.2, ⟨hk.1.2, hk.2⟩⟩⟩)⟩, ⟨by repeat (first | (with_reducible first | exact HB.out | apply below_alloc | apply pw_below_drewN | apply below_drew1) | exact HB.out)⟩⟩
                  · rw [if_neg c53] at H
                    have c53b0 : (t510 == 0) = false := beq_eq_false_iff_ne.mpr c53
                    have c53b1 : (t510 != 0) = true := bne_iff_ne.mpr c53
                    have h_ := HT_r.out
                    subst h_
                    exact absurd H (by cases kj3 <;> simp [manometerlaw09_PointsOrder.j1])
                · rw [if_neg c52] at H
                  have c52b0 : (t506 == 0) = false := beq_eq_false_iff_ne.mpr c52
                  have c52b1 : (t506 != 0) = true := bne_iff_ne.mpr c52
                  have h_ := HT_r.out
                  subst h_
                  exact absurd H (by cases kj3 <;> simp [manometerlaw09_PointsOrder.j1])
              · rw [if_neg c51] at H
                have c51b0 : (t502 == 0) = false := beq_eq_false_iff_ne.mpr c51
                have c51b1 : (t502 != 0) = true := bne_iff_ne.mpr c51
                have h_ := HT_r.out
                subst h_
                exact absurd H (by cases kj3 <;> simp [manometerlaw09_PointsOrder.j1])
            · rw [if_neg c50] at H
              have c50b0 : (t498 == 0) = false := beq_eq_false_iff_ne.mpr c50
              have c50b1 : (t498 != 0) = true := bne_iff_ne.mpr c50
              have h_ := HT_r.out
              subst h_
              exact absurd H (by cases kj3 <;> simp [manometerlaw09_PointsOrder.j1])
          · rw [if_neg c49] at H
            have c49b0 : (t494 == 0) = false := beq_eq_false_iff_ne.mpr c49
            have c49b1 : (t494 != 0) = true := bne_iff_ne.mpr c49
            (first | rw [c49b0] | (simp only [i64_w, i32_w]; rw [c49b0]) | skip)
            have h_ := HT_r.out
            subst h_
            exact absurd H (by cases kj3 <;> simp [manometerlaw09_PointsOrder.j1])
        case rest =>
          clear HC40
          try clear c1
          try clear c2
          try clear p2
          try clear c3
          try clear c4
          try clear c5
          try clear c6
          try clear c8
          try clear c9
          try clear c10
          try clear c12
          try clear c14
          try clear c16
          try clear c30
          try clear c32
          try clear c49
          try clear c49b0
          try clear c49b1
          try clear c50
          try clear c50b0
          try clear c50b1
          try clear c51
          try clear c51b0
          try clear c51b1
          try clear c52
          try clear c52b0
          try clear c52b1
          try clear c53
          try clear c53b0
          try clear c53b1
          try clear p2
          obtain ⟨kq, x109_39, rfl, HA, HJ39, HO_7, HO_9, HO_13, HO_15, HO_17, HB⟩ := hcut
          cases kq with
          | zero => exact absurd HA.out (by simp [manometerlaw09_PointsOrder.j1])
          | succ kj39 =>
            have H := HA.out
            clear HA
            simp only [manometerlaw09_PointsOrder.j1] at H
            by_cases c54 : x109_39 = true
            · subst c54
              have H1 : (some false) = some r := by rw [if_pos rfl] at H; exact H
              clear H
              have H := H1
              clear H1
              obtain rfl := Option.some.inj H
              exact absurd HT_r.out (by decide)
            · replace c54 := Bool.eq_false_iff.mpr c54
              subst c54
              have H1 : ((manometerref09_Same.f kj39 t491 t495).bind fun t515 => (if t515 = true then ((manometerref09_Same.f kj39 t503 t507).bind fun t516 => (if t516 = true then ((manometerref09_Same.f kj39 t511 l0).bind fun t517 => (some t517)) else (some false))) else (some false))) = some r := by rw [if_neg (show ¬ (false = true) by decide)] at H; exact H
              clear H
              have H := H1
              clear H1
              replace H := Option.bind_eq_some_iff.mp H
              obtain ⟨t515, A550, H⟩ := H
              replace H : (if t515 = true then ((manometerref09_Same.f kj39 t503 t507).bind fun t516 => (if t516 = true then ((manometerref09_Same.f kj39 t511 l0).bind fun t517 => (some t517)) else (some false))) else (some false)) = some r := H
              have A55 := Aside0.mk A550
              clear A550
              by_cases c56 : t515 = true
              · subst c56
                have H1 : ((manometerref09_Same.f kj39 t503 t507).bind fun t516 => (if t516 = true then ((manometerref09_Same.f kj39 t511 l0).bind fun t517 => (some t517)) else (some false))) = some r := by rw [if_pos rfl] at H; exact H
                clear H
                have H := H1
                clear H1
                replace H := Option.bind_eq_some_iff.mp H
                obtain ⟨t516, A570, H⟩ := H
                replace H : (if t516 = true then ((manometerref09_Same.f kj39 t511 l0).bind fun t517 => (some t517)) else (some false)) = some r := H
                have A57 := Aside0.mk A570
                clear A570
                by_cases c58 : t516 = true
                · subst c58
                  have H1 : ((manometerref09_Same.f kj39 t511 l0).bind fun t517 => (some t517)) = some r := by rw [if_pos rfl] at H; exact H
                  clear H
                  have H := H1
                  clear H1
                  replace H := Option.bind_eq_some_iff.mp H
                  obtain ⟨t517, A590, H⟩ := H
                  replace H : (some t517) = some r := H
                  have A59 := Aside0.mk A590
                  clear A590
                  obtain rfl := Option.some.inj H
                  obtain ⟨Ao60, co60, eo60⟩ := Kd.R_slice HO_9.out
                  subst eo60
                  go_wp2_with (first | ((with_reducible refine gate_callee (f := 23) rfl ?_); refine goesL_ (some 112) rfl rfl Try.func23 (by kernel_rfl) rfl #[.slice Ao44 t491.length co44, .slice Ao60 t495.length co60] rfl (by (try simp only [List.map_toArray, List.map_cons, List.map_nil]); first | done | rfl | (simp only [List.length_drop, List.length_take]; rfl)) ?_; (with_reducible refine (manometerref09_Same.calls kj39 _ _ t491 _ _ t495 true _ ?side1 ?side2 ?side3 ?side4 A55.out).mono ?_); (case side1 => repeat (first | exact (Kd.R_reads' HO_7.out).2.2 | (with_reducible refine Kd.C_alloc ?_ _) | (with_reducible refine Kd.C_drewN ?_ _) | (with_reducible refine Kd.C_drew ?_))); (case side2 => exact (Kd.R_reads' HO_7.out).2.1); (case side3 => repeat (first | exact (Kd.R_reads' HO_9.out).2.2 | (with_reducible refine Kd.C_alloc ?_ _) | (with_reducible refine Kd.C_drewN ?_ _) | (with_reducible refine Kd.C_drew ?_))); (case side4 => exact (Kd.R_reads' HO_9.out).2.1); rintro e w' ⟨rfl, ⟨nd, rfl⟩⟩; refine ⟨_, rfl, ?_⟩; obtain ⟨Ao61, co61, eo61⟩ := Kd.R_slice HO_13.out; subst eo61; obtain ⟨Ao62, co62, eo62⟩ := Kd.R_slice HO_15.out; subst eo62) | (go_at_call 23; (with_reducible refine (manometerref09_Same.calls kj39 _ _ t503 _ _ t507 true _ ?side1 ?side2 ?side3 ?side4 A57.out).mono ?_); (case side1 => repeat (first | exact (Kd.R_reads' HO_13.out).2.2 | (with_reducible refine Kd.C_alloc ?_ _) | (with_reducible refine Kd.C_drewN ?_ _) | (with_reducible refine Kd.C_drew ?_))); (case side2 => exact (Kd.R_reads' HO_13.out).2.1); (case side3 => repeat (first | exact (Kd.R_reads' HO_15.out).2.2 | (with_reducible refine Kd.C_alloc ?_ _) | (with_reducible refine Kd.C_drewN ?_ _) | (with_reducible refine Kd.C_drew ?_))); (case side4 => exact (Kd.R_reads' HO_15.out).2.1); rintro e w' ⟨rfl, ⟨nd, rfl⟩⟩; obtain ⟨Ao63, co63, eo63⟩ := Kd.R_slice HO_17.out; subst eo63) | (go_at_call 23; (with_reducible refine (manometerref09_Same.calls kj39 _ _ t511 _ _ l0 t517 _ ?side1 ?side2 ?side3 ?side4 A59.out).mono ?_); (case side1 => repeat (first | exact (Kd.R_reads' HO_17.out).2.2 | (with_reducible refine Kd.C_alloc ?_ _) | (with_reducible refine Kd.C_drewN ?_ _) | (with_reducible refine Kd.C_drew ?_))); (case side2 => exact (Kd.R_reads' HO_17.out).2.1); (case side3 => repeat (first | exact (Kd.C_below HR0.out (by repeat (first | (with_reducible first | exact HB.out | apply below_alloc | apply pw_below_drewN | apply below_drew1) | exact HB.out))) | (with_reducible refine Kd.C_alloc ?_ _) | (with_reducible refine Kd.C_drewN ?_ _) | (with_reducible refine Kd.C_drew ?_))); (case side4 => exact HC0.out); rintro e w' ⟨rfl, ⟨nd, rfl⟩⟩))
                  go_ret
                  exact ⟨by first | rfl | (simp [errW_none, errW_some] <;> rfl) | (simp [*, errW_none, errW_some] <;> rfl), by repeat (first | (with_reducible first | exact HB.out | apply below_alloc | apply pw_below_drewN | apply below_drew1) | exact HB.out)⟩
                · replace c58 := Bool.eq_false_iff.mpr c58
                  subst c58
                  have H1 : (some false) = some r := by rw [if_neg (show ¬ (false = true) by decide)] at H; exact H
                  clear H
                  have H := H1
                  clear H1
                  obtain rfl := Option.some.inj H
                  exact absurd HT_r.out (by decide)
              · replace c56 := Bool.eq_false_iff.mpr c56
                subst c56
                have H1 : (some false) = some r := by rw [if_neg (show ¬ (false = true) by decide)] at H; exact H
                clear H
                have H := H1
                clear H1
                obtain rfl := Option.some.inj H
                exact absurd HT_r.out (by decide)

-- NOT PRINTED: function 10 (manometerlaw09_PointsFolds)

end Go.Proofs.Ytfjhommpgbppjaa.Q
