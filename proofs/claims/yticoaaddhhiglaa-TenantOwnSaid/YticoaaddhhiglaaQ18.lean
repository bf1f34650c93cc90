-- Laid by this session's turned edition of print.py out of the translation. Not trusted: Lean checks it.
import Derived.Test.YticoaaddhhiglaaQ0
namespace Go.Proofs.Yticoaaddhhiglaa.Q
open Go.RowKit Go.Proofs.YticoaaddhhiglaaW.PrintWords Go.Proofs.YticoaaddhhiglaaW.PrintLast Go.Proofs.YticoaaddhhiglaaW.PrintMore
attribute [local go_sem] max2_int min2_int max_two min_two max_three min_three max_four min_four   -- for this text's walks alone
set_option linter.unusedVariables false
set_option linter.unusedSimpArgs false
def manometerref18_SameKeys.l0 : Nat → List (S82) → List (S82) → Int → Int → Option (Bool)
  | 0, _, _, _, _ => none
  | k + 1, x0, x1, x12, x13 => if x13 < x12 then (if 0 ≤ x13 then (if x13 < (x0.length : Int) then (if x13 < (x1.length : Int) then (if (((rd_T82 x0 x13).f0).toList) = (((rd_T82 x1 x13).f0).toList) then (if ((rd_T82 x0 x13).f1.f0) = ((rd_T82 x1 x13).f1.f0) then (if (((rd_T82 x0 x13).f1.f1).toList) = (((rd_T82 x1 x13).f1.f1).toList) then (manometerref18_SameKeys.l0 k x0 x1 x12 (wrap64 (x13 + 1))) else (some false)) else (some false)) else (some false)) else (none)) else (none)) else (none)) else (some true)
def manometerref18_SameKeys.f (k : Nat) (l0 : List (S82)) (l1 : List (S82)) : Option (Bool) := if (l0.length : Int) = (l1.length : Int) then (manometerref18_SameKeys.l0 k l0 l1 (l0.length : Int) 0) else (some false)
theorem manometerref18_SameKeys.mono_l : ∀ k, (∀ y0 y1 y2 y3, LeO (manometerref18_SameKeys.l0 k y0 y1 y2 y3) (manometerref18_SameKeys.l0 (k + 1) y0 y1 y2 y3))
  | 0 => fun _ _ _ _ r h => by simp [manometerref18_SameKeys.l0] at h
  | k + 1 => by
    have ih0 := manometerref18_SameKeys.mono_l k
    · intro y0 y1 y2 y3
      unfold manometerref18_SameKeys.l0
      repeat' first
      | (with_reducible exact ih0 _ _ _ _)
      | (with_reducible exact LeO.refl _)
      | (with_reducible exact LeO.none _)
      | (with_reducible refine LeO.ite ?_ ?_)
      | (with_reducible refine LeO.bind ?_ (fun _ => ?_))
      | exact ih0 _ _ _ _
      | exact LeO.none _
      | refine LeO.ite ?_ ?_
      | refine LeO.bind ?_ (fun _ => ?_)
theorem manometerref18_SameKeys.mono : ∀ a0 a1 k, LeO (manometerref18_SameKeys.f k a0 a1) (manometerref18_SameKeys.f (k + 1) a0 a1) := by
  intro a0 a1 k
  have ih0 := manometerref18_SameKeys.mono_l k
  unfold manometerref18_SameKeys.f
  repeat' first
      | (with_reducible exact ih0 _ _ _ _)
      | (with_reducible exact LeO.refl _)
      | (with_reducible exact LeO.none _)
      | (with_reducible refine LeO.ite ?_ ?_)
      | (with_reducible refine LeO.bind ?_ (fun _ => ?_))
      | exact ih0 _ _ _ _
      | exact LeO.none _
      | refine LeO.ite ?_ ?_
      | refine LeO.bind ?_ (fun _ => ?_)
set_option maxHeartbeats 8000000 in
set_option maxRecDepth 100000 in
theorem manometerref18_SameKeys.calls (k : Nat) (A0 : Option Addr) (c0 : Nat) (l0 : List (S82)) (A1 : Option Addr) (c1 : Nat) (l1 : List (S82)) (r : Bool) (w : World) (hr0 : Kd.C k82 w A0 l0.length l0) (hc0 : l0.length ≤ c0) (hr1 : Kd.C k82 w A1 l1.length l1) (hc1 : l1.length ≤ c1) (h : manometerref18_SameKeys.f k l0 l1 = some r) :
    Calls Try.prog 50 #[.slice A0 l0.length c0, .slice A1 l1.length c1] w fun e w' => e = .returned (.bool r) ∧ Drawn0 w w' := by
  have hu82 := Try.underlying82
  have HR0 := Aside0.mk hr0
  have HC0 := Aside0.mk hc0
  clear hr0 hc0
  have HR1 := Aside0.mk hr1
  have HC1 := Aside0.mk hc1
  clear hr1 hc1
  have H : (if (l0.length : Int) = (l1.length : Int) then (manometerref18_SameKeys.l0 k l0 l1 (l0.length : Int) 0) else (some false)) = some r := h
  clear h
  by_cases c3 : (l0.length : Int) = (l1.length : Int)
  · rw [if_pos c3] at H
    have c3b0 : ((l0.length : Int) == (l1.length : Int)) = true := beq_iff_eq.mpr c3
    have c3b1 : ((l0.length : Int) != (l1.length : Int)) = false := bne_eq_false_iff_eq.mpr c3
    have c3b2 : (l0.length == l1.length) = true := by first | simpa using c3 | (simp at c3 ⊢; omega)
    clear c3
    have H' := Aside0.mk H
    clear H
    go_enter Try.func50, Try.ntmps50
    go_wp2
    repeat (go_quiet (fail); try go_wp2)
    go_loopg [13] k (fun kq v13 w' => ∃ (x13_1 : Int), v13 = .int .i64 x13_1 ∧ Aside0 (manometerref18_SameKeys.l0 kq l0 l1 (l0.length : Int) x13_1 = some r) ∧ Aside0 (kq ≤ k) ∧ Drawn0 w w')
    case atStart => exact ⟨(0), (by first | rfl | (simp; done) | (simp [*]; done)), H', ⟨Nat.le_refl _⟩, by repeat (first | exact Drawn0.refl _ | apply Drawn0.step)⟩
    case round =>
      clear H'
      try clear c1
      try clear p2
      try clear c3
      try clear c3b0
      try clear c3b1
      try clear c3b2
      obtain ⟨x13_1, rfl, HA, HK1, ⟨m1, rfl⟩⟩ := hrel
      cases gk with
      | zero => exact absurd HA.out (by simp [manometerref18_SameKeys.l0])
      | succ k1 =>
        have H := HA.out
        clear HA
        simp only [manometerref18_SameKeys.l0] at H
        by_cases c4 : x13_1 < (l0.length : Int)
        · rw [if_pos c4] at H
          have c4b0 : decide (x13_1 < (l0.length : Int)) = true := decide_eq_true c4
          clear c4
          by_cases c5 : 0 ≤ x13_1
          rotate_left
          · rw [if_neg c5] at H
            exact absurd H (by simp)
          rw [if_pos c5] at H
          have c5b0 : decide (0 ≤ x13_1) = true := decide_eq_true c5
          clear c5
          by_cases c6 : x13_1 < (l0.length : Int)
          rotate_left
          · rw [if_neg c6] at H
            exact absurd H (by simp)
          rw [if_pos c6] at H
          have c6b0 : decide (x13_1 < (l0.length : Int)) = true := decide_eq_true c6
          clear c6
          by_cases c7 : x13_1 < (l1.length : Int)
          rotate_left
          · rw [if_neg c7] at H
            exact absurd H (by simp)
          rw [if_pos c7] at H
          have c7b0 : decide (x13_1 < (l1.length : Int)) = true := decide_eq_true c7
          clear c7
          by_cases c8 : (((rd_T82 l0 x13_1).f0).toList) = (((rd_T82 l1 x13_1).f0).toList)
          · rw [if_pos c8] at H
            have c8b0 : ((((rd_T82 l0 x13_1).f0).toList) == (((rd_T82 l1 x13_1).f0).toList)) = true := beq_iff_eq.mpr c8
            have c8b1 : ((((rd_T82 l0 x13_1).f0).toList) != (((rd_T82 l1 x13_1).f0).toList)) = false := bne_eq_false_iff_eq.mpr c8
            clear c8
            by_cases c9 : ((rd_T82 l0 x13_1).f1.f0) = ((rd_T82 l1 x13_1).f1.f0)
            · rw [if_pos c9] at H
              have c9b0 : (((rd_T82 l0 x13_1).f1.f0) == ((rd_T82 l1 x13_1).f1.f0)) = true := beq_iff_eq.mpr c9
              have c9b1 : (((rd_T82 l0 x13_1).f1.f0) != ((rd_T82 l1 x13_1).f1.f0)) = false := bne_eq_false_iff_eq.mpr c9
              clear c9
              by_cases c10 : (((rd_T82 l0 x13_1).f1.f1).toList) = (((rd_T82 l1 x13_1).f1.f1).toList)
              · rw [if_pos c10] at H
                have c10b0 : ((((rd_T82 l0 x13_1).f1.f1).toList) == (((rd_T82 l1 x13_1).f1.f1).toList)) = true := beq_iff_eq.mpr c10
                have c10b1 : ((((rd_T82 l0 x13_1).f1.f1).toList) != (((rd_T82 l1 x13_1).f1.f1).toList)) = false := bne_eq_false_iff_eq.mpr c10
                clear c10
                have H' := Aside0.mk H
                clear H
                have p309 : 0 ≤ (x13_1 : Int) := of_decide_eq_true (by first | (with_reducible assumption) | assumption)
                have q309 : x13_1 < (l0.length : Int) := of_decide_eq_true (by first | (with_reducible assumption) | assumption)
                obtain ⟨ad309, e309, hx309_0, hx309_1, hx309_2⟩ := at_T82 HR0.out x13_1 p309 q309
                cases e309
                replace p309 := eq_true p309
                replace q309 := eq_true q309
                have p310 : 0 ≤ (x13_1 : Int) := of_decide_eq_true (by first | (with_reducible assumption) | assumption)
                have q310 : x13_1 < (l1.length : Int) := of_decide_eq_true (by first | (with_reducible assumption) | assumption)
                obtain ⟨ad310, e310, hx310_0, hx310_1, hx310_2⟩ := at_T82 HR1.out x13_1 p310 q310
                cases e310
                replace p310 := eq_true p310
                replace q310 := eq_true q310
                go_wp2
                repeat (go_quiet (fail); try go_wp2)
                go_roundg k1
                case measure => have := HK1.out; omega
                case rel => exact ⟨(wrap64 (x13_1 + 1)), (by first | rfl | (simp; done) | (simp [*]; done)), H', ⟨by have := HK1.out; omega⟩, by repeat (first | exact Drawn0.refl _ | apply Drawn0.step)⟩
              · rw [if_neg c10] at H
                have c10b0 : ((((rd_T82 l0 x13_1).f1.f1).toList) == (((rd_T82 l1 x13_1).f1.f1).toList)) = false := beq_eq_false_iff_ne.mpr c10
                have c10b1 : ((((rd_T82 l0 x13_1).f1.f1).toList) != (((rd_T82 l1 x13_1).f1.f1).toList)) = true := bne_iff_ne.mpr c10
                obtain rfl := Option.some.inj H
                have p309 : 0 ≤ (x13_1 : Int) := of_decide_eq_true (by first | (with_reducible assumption) | assumption)
                have q309 : x13_1 < (l0.length : Int) := of_decide_eq_true (by first | (with_reducible assumption) | assumption)
                obtain ⟨ad309, e309, hx309_0, hx309_1, hx309_2⟩ := at_T82 HR0.out x13_1 p309 q309
                cases e309
                replace p309 := eq_true p309
                replace q309 := eq_true q309
                have p310 : 0 ≤ (x13_1 : Int) := of_decide_eq_true (by first | (with_reducible assumption) | assumption)
                have q310 : x13_1 < (l1.length : Int) := of_decide_eq_true (by first | (with_reducible assumption) | assumption)
                obtain ⟨ad310, e310, hx310_0, hx310_1, hx310_2⟩ := at_T82 HR1.out x13_1 p310 q310
                cases e310
                replace p310 := eq_true p310
                replace q310 := eq_true q310
                go_wp2
                repeat (go_quiet (fail); try go_wp2)
                go_ret
                exact ⟨by first | rfl | (simp; done) | (simp [*]; done), by repeat (first | exact Drawn0.refl _ | apply Drawn0.step)⟩
            · rw [if_neg c9] at H
              have c9b0 : (((rd_T82 l0 x13_1).f1.f0) == ((rd_T82 l1 x13_1).f1.f0)) = false := beq_eq_false_iff_ne.mpr c9
              have c9b1 : (((rd_T82 l0 x13_1).f1.f0) != ((rd_T82 l1 x13_1).f1.f0)) = true := bne_iff_ne.mpr c9
              obtain rfl := Option.some.inj H
              have p309 : 0 ≤ (x13_1 : Int) := of_decide_eq_true (by first | (with_reducible assumption) | assumption)
              have q309 : x13_1 < (l0.length : Int) := of_decide_eq_true (by first | (with_reducible assumption) | assumption)
              obtain ⟨ad309, e309, hx309_0, hx309_1, hx309_2⟩ := at_T82 HR0.out x13_1 p309 q309
              cases e309
              replace p309 := eq_true p309
              replace q309 := eq_true q309
              have p310 : 0 ≤ (x13_1 : Int) := of_decide_eq_true (by first | (with_reducible assumption) | assumption)
              have q310 : x13_1 < (l1.length : Int) := of_decide_eq_true (by first | (with_reducible assumption) | assumption)
              obtain ⟨ad310, e310, hx310_0, hx310_1, hx310_2⟩ := at_T82 HR1.out x13_1 p310 q310
              cases e310
              replace p310 := eq_true p310
              replace q310 := eq_true q310
              go_wp2
              repeat (go_quiet (fail); try go_wp2)
              go_ret
              exact ⟨by first | rfl | (simp; done) | (simp [*]; done), by repeat (first | exact Drawn0.refl _ | apply Drawn0.step)⟩
          · rw [if_neg c8] at H
            have c8b0 : ((((rd_T82 l0 x13_1).f0).toList) == (((rd_T82 l1 x13_1).f0).toList)) = false := beq_eq_false_iff_ne.mpr c8
            have c8b1 : ((((rd_T82 l0 x13_1).f0).toList) != (((rd_T82 l1 x13_1).f0).toList)) = true := bne_iff_ne.mpr c8
            obtain rfl := Option.some.inj H
            have p309 : 0 ≤ (x13_1 : Int) := of_decide_eq_true (by first | (with_reducible assumption) | assumption)
            have q309 : x13_1 < (l0.length : Int) := of_decide_eq_true (by first | (with_reducible assumption) | assumption)
            obtain ⟨ad309, e309, hx309_0, hx309_1, hx309_2⟩ := at_T82 HR0.out x13_1 p309 q309
            cases e309
            replace p309 := eq_true p309
            replace q309 := eq_true q309
            have p310 : 0 ≤ (x13_1 : Int) := of_decide_eq_true (by first | (with_reducible assumption) | assumption)
            have q310 : x13_1 < (l1.length : Int) := of_decide_eq_true (by first | (with_reducible assumption) | assumption)
            obtain ⟨ad310, e310, hx310_0, hx310_1, hx310_2⟩ := at_T82 HR1.out x13_1 p310 q310
            cases e310
            replace p310 := eq_true p310
            replace q310 := eq_true q310
            go_wp2
            repeat (go_quiet (fail); try go_wp2)
            go_ret
            exact ⟨by first | rfl | (simp; done) | (simp [*]; done), by repeat (first | exact Drawn0.refl _ | apply Drawn0.step)⟩
        · rw [if_neg c4] at H
          have c4b0 : decide (x13_1 < (l0.length : Int)) = false := decide_eq_false c4
          clear c4
          obtain rfl := Option.some.inj H
          go_wp2
          repeat (go_quiet (fail); try go_wp2)
          go_ret
          exact ⟨by first | rfl | (simp; done) | (simp [*]; done), by repeat (first | exact Drawn0.refl _ | apply Drawn0.step)⟩
  · rw [if_neg c3] at H
    have c3b0 : ((l0.length : Int) == (l1.length : Int)) = false := beq_eq_false_iff_ne.mpr c3
    have c3b1 : ((l0.length : Int) != (l1.length : Int)) = true := bne_iff_ne.mpr c3
    have c3b2 : (l0.length == l1.length) = false := by first | simpa using c3 | (simp at c3 ⊢; omega)
    obtain rfl := Option.some.inj H
    go_enter Try.func50, Try.ntmps50
    go_wp2
    repeat (go_quiet (fail); try go_wp2)
    go_ret
    exact ⟨by first | rfl | (simp; done) | (simp [*]; done), by repeat (first | exact Drawn0.refl _ | apply Drawn0.step)⟩
-- NOT PRINTED: function 51 (manometerref18_Table_Keys)
-- NOT PRINTED: function 26 (manometerref18_Table_Reads)
-- NOT PRINTED: function 52 (manometerref18_Table_Access)
-- NOT PRINTED: function 25 (manometerlaw18_same)
-- NOT PRINTED: function 6 (manometerlaw18_TenantDoes)
-- NOT PRINTED: function 7 (manometerlaw18_TenantKept)
-- NOT PRINTED: function 27 (manometerref18_Table_Clone)
-- NOT PRINTED: function 8 (manometerlaw18_TenantOwn)
end Go.Proofs.Yticoaaddhhiglaa.Q
