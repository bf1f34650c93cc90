-- Laid by this session's turned edition of print.py out of the translation. Not trusted: Lean checks it.
import Derived.Test.YtmppjcendcbamaaDoorQ0
import Derived.Test.YtmppjcendcbamaaDoorQ1
import Derived.Test.YtmppjcendcbamaaDoorQ7
import Derived.Test.YtmppjcendcbamaaDoorQ8
import Derived.Test.YtmppjcendcbamaaDoorQ9
import Derived.Test.YtmppjcendcbamaaDoorE4
namespace Go.Proofs.YtmppjcendcbamaaDoor.Q
open Go.RowKit Go.Proofs.YtmppjcendcbamaaDoorW.PrintWords Go.Proofs.YtmppjcendcbamaaDoorW.PrintLast Go.Proofs.YtmppjcendcbamaaDoorW.PrintMore
attribute [local go_sem] max2_int min2_int max_two min_two max_three min_three max_four min_four   -- for this text's walks alone
set_option linter.unusedVariables false
set_option linter.unusedSimpArgs false

/-! ### manometerlaw02_FrameTorn: function 10 -/
mutual
def manometerlaw02_FrameTorn.j0 : Nat → List (List Int) → Int → List Int → Bool → Bool → Option (Bool)
  | 0, _, _, _, _, _ => none
  | k + 1, x0, x1, x5, x6, x36 => if x36 = true then (some x6) else (if 0 ≤ x1 then (if x1 ≤ (x5.length : Int) then ((frame_All.f k (x5.take (x1 : Int).toNat)).bind fun bt419 => (manometerlaw02_FrameTorn.l0 k x0 x1 bt419.1 bt419.2.1 bt419.2.2 0 0)) else (none)) else (none))
def manometerlaw02_FrameTorn.l0 : Nat → List (List Int) → Int → List (List Int) → Int → Int → Int → Int → Option (Bool)
  | 0, _, _, _, _, _, _, _ => none
  | k + 1, x0, x1, x7, x8, x9, x10, x11 => if x10 < (x0.length : Int) then (if 0 ≤ x10 then ((frame_Size.f k ((rd_L2 x0 x10).length : Int)).bind fun t425 => (manometerlaw02_FrameTorn.j2 k x0 x1 x7 x8 x9 x10 x11 (decide ((wrap64 (x11 + t425)) ≤ x1)))) else (none)) else (manometerlaw02_FrameTorn.j2 k x0 x1 x7 x8 x9 x10 x11 false)
def manometerlaw02_FrameTorn.j2 : Nat → List (List Int) → Int → List (List Int) → Int → Int → Int → Int → Bool → Option (Bool)
  | 0, _, _, _, _, _, _, _, _ => none
  | k + 1, x0, x1, x7, x8, x9, x10, x11, x61 => if x61 = true then (if 0 ≤ x10 then (if x10 < (x0.length : Int) then ((frame_Size.f k ((rd_L2 x0 x10).length : Int)).bind fun t427 => (manometerlaw02_FrameTorn.l0 k x0 x1 x7 x8 x9 (wrap64 (x10 + 1)) (wrap64 (x11 + t427)))) else (none)) else (none)) else (if 0 ≤ x10 then (if x10 ≤ (x0.length : Int) then ((manometerlaw02_same.f k x7 (x0.take (x10 : Int).toNat)).bind fun t432 => (if t432 = true then (if x8 = x11 then (if ((x9 == 0) == (x11 == x1)) = true then (if x9 = 0 then (some true) else (some (x9 == 6))) else (some false)) else (some false)) else (some false))) else (none)) else (none))
end
def manometerlaw02_FrameTorn.f (k : Nat) (l0 : List (List Int)) (a1 : Int) : Option (Bool) := (manometerlaw02_live.f k).bind fun t408 => (if t408 = true then ((manometerlaw02_few.f k l0).bind fun t409 => (if t409 = true then ((manometerlaw02_laid.f k l0).bind fun bt411 => (if bt411.2 = true then (if a1 < 0 then (manometerlaw02_FrameTorn.j0 k l0 a1 bt411.1 bt411.2 true) else (manometerlaw02_FrameTorn.j0 k l0 a1 bt411.1 bt411.2 (decide (a1 > (bt411.1.length : Int))))) else (manometerlaw02_FrameTorn.j0 k l0 a1 bt411.1 bt411.2 true))) else ((manometerlaw02_live.f k).bind fun t410 => (if t410 = true then (some t410) else (none))))) else (none))
theorem manometerlaw02_FrameTorn.mono_l : ∀ k, (∀ y0 y1 y2 y3 y4, LeO (manometerlaw02_FrameTorn.j0 k y0 y1 y2 y3 y4) (manometerlaw02_FrameTorn.j0 (k + 1) y0 y1 y2 y3 y4)) ∧ (∀ y0 y1 y2 y3 y4 y5 y6, LeO (manometerlaw02_FrameTorn.l0 k y0 y1 y2 y3 y4 y5 y6) (manometerlaw02_FrameTorn.l0 (k + 1) y0 y1 y2 y3 y4 y5 y6)) ∧ (∀ y0 y1 y2 y3 y4 y5 y6 y7, LeO (manometerlaw02_FrameTorn.j2 k y0 y1 y2 y3 y4 y5 y6 y7) (manometerlaw02_FrameTorn.j2 (k + 1) y0 y1 y2 y3 y4 y5 y6 y7))
  | 0 => ⟨fun _ _ _ _ _ r h => by simp [manometerlaw02_FrameTorn.j0] at h, fun _ _ _ _ _ _ _ r h => by simp [manometerlaw02_FrameTorn.l0] at h, fun _ _ _ _ _ _ _ _ r h => by simp [manometerlaw02_FrameTorn.j2] at h⟩
  | k + 1 => by
    obtain ⟨ih0, ih1, ih2⟩ := manometerlaw02_FrameTorn.mono_l k
    refine ⟨?_, ?_, ?_⟩
    · intro y0 y1 y2 y3 y4
      unfold manometerlaw02_FrameTorn.j0
      repeat' first
      | (with_reducible exact ih0 _ _ _ _ _)
      | (with_reducible exact ih1 _ _ _ _ _ _ _)
      | (with_reducible exact ih2 _ _ _ _ _ _ _ _)
      | (with_reducible exact frame_All.mono _ _)
      | (with_reducible exact frame_Size.mono _ _)
      | (with_reducible exact manometerlaw02_few.mono _ _)
      | (with_reducible exact manometerlaw02_laid.mono _ _)
      | (with_reducible exact manometerlaw02_live.mono _)
      | (with_reducible exact manometerlaw02_same.mono _ _ _)
      | (with_reducible exact LeO.refl _)
      | (with_reducible exact LeO.none _)
      | (with_reducible refine LeO.ite ?_ ?_)
      | (with_reducible refine LeO.bind ?_ (fun _ => ?_))
      | exact ih0 _ _ _ _ _
      | exact ih1 _ _ _ _ _ _ _
      | exact ih2 _ _ _ _ _ _ _ _
      | exact frame_All.mono _ _
      | exact frame_Size.mono _ _
      | exact manometerlaw02_few.mono _ _
      | exact manometerlaw02_laid.mono _ _
      | exact manometerlaw02_live.mono _
      | exact manometerlaw02_same.mono _ _ _
      | exact LeO.none _
      | refine LeO.ite ?_ ?_
      | refine LeO.bind ?_ (fun _ => ?_)
    · intro y0 y1 y2 y3 y4 y5 y6
      unfold manometerlaw02_FrameTorn.l0
      repeat' first
      | (with_reducible exact ih0 _ _ _ _ _)
      | (with_reducible exact ih1 _ _ _ _ _ _ _)
      | (with_reducible exact ih2 _ _ _ _ _ _ _ _)
      | (with_reducible exact frame_All.mono _ _)
      | (with_reducible exact frame_Size.mono _ _)
      | (with_reducible exact manometerlaw02_few.mono _ _)
      | (with_reducible exact manometerlaw02_laid.mono _ _)
      | (with_reducible exact manometerlaw02_live.mono _)
      | (with_reducible exact manometerlaw02_same.mono _ _ _)
      | (with_reducible exact LeO.refl _)
      | (with_reducible exact LeO.none _)
      | (with_reducible refine LeO.ite ?_ ?_)
      | (with_reducible refine LeO.bind ?_ (fun _ => ?_))
      | exact ih0 _ _ _ _ _
      | exact ih1 _ _ _ _ _ _ _
      | exact ih2 _ _ _ _ _ _ _ _
      | exact frame_All.mono _ _
      | exact frame_Size.mono _ _
      | exact manometerlaw02_few.mono _ _
      | exact manometerlaw02_laid.mono _ _
      | exact manometerlaw02_live.mono _
      | exact manometerlaw02_same.mono _ _ _
      | exact LeO.none _
      | refine LeO.ite ?_ ?_
      | refine LeO.bind ?_ (fun _ => ?_)
    · intro y0 y1 y2 y3 y4 y5 y6 y7
      unfold manometerlaw02_FrameTorn.j2
      repeat' first
      | (with_reducible exact ih0 _ _ _ _ _)
      | (with_reducible exact ih1 _ _ _ _ _ _ _)
      | (with_reducible exact ih2 _ _ _ _ _ _ _ _)
      | (with_reducible exact frame_All.mono _ _)
      | (with_reducible exact frame_Size.mono _ _)
      | (with_reducible exact manometerlaw02_few.mono _ _)
      | (with_reducible exact manometerlaw02_laid.mono _ _)
      | (with_reducible exact manometerlaw02_live.mono _)
      | (with_reducible exact manometerlaw02_same.mono _ _ _)
      | (with_reducible exact LeO.refl _)
      | (with_reducible exact LeO.none _)
      | (with_reducible refine LeO.ite ?_ ?_)
      | (with_reducible refine LeO.bind ?_ (fun _ => ?_))
      | exact ih0 _ _ _ _ _
      | exact ih1 _ _ _ _ _ _ _
      | exact ih2 _ _ _ _ _ _ _ _
      | exact frame_All.mono _ _
      | exact frame_Size.mono _ _
      | exact manometerlaw02_few.mono _ _
      | exact manometerlaw02_laid.mono _ _
      | exact manometerlaw02_live.mono _
      | exact manometerlaw02_same.mono _ _ _
      | exact LeO.none _
      | refine LeO.ite ?_ ?_
      | refine LeO.bind ?_ (fun _ => ?_)
theorem manometerlaw02_FrameTorn.mono : ∀ a0 a1 k, LeO (manometerlaw02_FrameTorn.f k a0 a1) (manometerlaw02_FrameTorn.f (k + 1) a0 a1) := by
  intro a0 a1 k
  obtain ⟨ih0, ih1, ih2⟩ := manometerlaw02_FrameTorn.mono_l k
  unfold manometerlaw02_FrameTorn.f
  repeat' first
      | (with_reducible exact ih0 _ _ _ _ _)
      | (with_reducible exact ih1 _ _ _ _ _ _ _)
      | (with_reducible exact ih2 _ _ _ _ _ _ _ _)
      | (with_reducible exact frame_All.mono _ _)
      | (with_reducible exact frame_Size.mono _ _)
      | (with_reducible exact manometerlaw02_few.mono _ _)
      | (with_reducible exact manometerlaw02_laid.mono _ _)
      | (with_reducible exact manometerlaw02_live.mono _)
      | (with_reducible exact manometerlaw02_same.mono _ _ _)
      | (with_reducible exact LeO.refl _)
      | (with_reducible exact LeO.none _)
      | (with_reducible refine LeO.ite ?_ ?_)
      | (with_reducible refine LeO.bind ?_ (fun _ => ?_))
      | exact ih0 _ _ _ _ _
      | exact ih1 _ _ _ _ _ _ _
      | exact ih2 _ _ _ _ _ _ _ _
      | exact frame_All.mono _ _
      | exact frame_Size.mono _ _
      | exact manometerlaw02_few.mono _ _
      | exact manometerlaw02_laid.mono _ _
      | exact manometerlaw02_live.mono _
      | exact manometerlaw02_same.mono _ _ _
      | exact LeO.none _
      | refine LeO.ite ?_ ?_
      | refine LeO.bind ?_ (fun _ => ?_)
set_option maxHeartbeats 8000000 in
set_option maxRecDepth 100000 in
theorem manometerlaw02_FrameTorn.calls (k : Nat) (A0 : Option Addr) (c0 : Nat) (l0 : List (List Int)) (a1 : Int) (r : Bool) (w : World) (hGlob : Glob w) (hr0 : Kd.C (Kd.slice 5 (Kd.int .u8)) w A0 l0.length l0) (hc0 : l0.length ≤ c0) (hT : r = true) (h : manometerlaw02_FrameTorn.f k l0 a1 = some r) :
    Calls Tryd.prog 10 #[.slice A0 l0.length c0, .int .i64 a1] w fun e w' => e = .returned (.bool r) ∧ Below w.heap.size w w' := by
  have HR0 := Aside0.mk hr0
  have HC0 := Aside0.mk hc0
  clear hr0 hc0
  have HGlob := Aside0.mk hGlob
  clear hGlob
  have HT_r := Aside0.mk hT
  clear hT
  have HB := Aside0.mk (Below.refl w.heap.size w)
  have H : ((manometerlaw02_live.f k).bind fun t408 => (if t408 = true then ((manometerlaw02_few.f k l0).bind fun t409 => (if t409 = true then ((manometerlaw02_laid.f k l0).bind fun bt411 => (if bt411.2 = true then (if a1 < 0 then (manometerlaw02_FrameTorn.j0 k l0 a1 bt411.1 bt411.2 true) else (manometerlaw02_FrameTorn.j0 k l0 a1 bt411.1 bt411.2 (decide (a1 > (bt411.1.length : Int))))) else (manometerlaw02_FrameTorn.j0 k l0 a1 bt411.1 bt411.2 true))) else ((manometerlaw02_live.f k).bind fun t410 => (if t410 = true then (some t410) else (none))))) else (none))) = some r := h
  clear h
  replace H := Option.bind_eq_some_iff.mp H
  obtain ⟨t408, A30, H⟩ := H
  replace H : (if t408 = true then ((manometerlaw02_few.f k l0).bind fun t409 => (if t409 = true then ((manometerlaw02_laid.f k l0).bind fun bt411 => (if bt411.2 = true then (if a1 < 0 then (manometerlaw02_FrameTorn.j0 k l0 a1 bt411.1 bt411.2 true) else (manometerlaw02_FrameTorn.j0 k l0 a1 bt411.1 bt411.2 (decide (a1 > (bt411.1.length : Int))))) else (manometerlaw02_FrameTorn.j0 k l0 a1 bt411.1 bt411.2 true))) else ((manometerlaw02_live.f k).bind fun t410 => (if t410 = true then (some t410) else (none))))) else (none)) = some r := H
  have A3 := Aside0.mk A30
  clear A30
  by_cases c4 : t408 = true
  · subst c4
    have H1 : ((manometerlaw02_few.f k l0).bind fun t409 => (if t409 = true then ((manometerlaw02_laid.f k l0).bind fun bt411 => (if bt411.2 = true then (if a1 < 0 then (manometerlaw02_FrameTorn.j0 k l0 a1 bt411.1 bt411.2 true) else (manometerlaw02_FrameTorn.j0 k l0 a1 bt411.1 bt411.2 (decide (a1 > (bt411.1.length : Int))))) else (manometerlaw02_FrameTorn.j0 k l0 a1 bt411.1 bt411.2 true))) else ((manometerlaw02_live.f k).bind fun t410 => (if t410 = true then (some t410) else (none))))) = some r := by rw [if_pos rfl] at H; exact H
    clear H
    have H := H1
    clear H1
    replace H := Option.bind_eq_some_iff.mp H
    obtain ⟨t409, A50, H⟩ := H
    replace H : (if t409 = true then ((manometerlaw02_laid.f k l0).bind fun bt411 => (if bt411.2 = true then (if a1 < 0 then (manometerlaw02_FrameTorn.j0 k l0 a1 bt411.1 bt411.2 true) else (manometerlaw02_FrameTorn.j0 k l0 a1 bt411.1 bt411.2 (decide (a1 > (bt411.1.length : Int))))) else (manometerlaw02_FrameTorn.j0 k l0 a1 bt411.1 bt411.2 true))) else ((manometerlaw02_live.f k).bind fun t410 => (if t410 = true then (some t410) else (none)))) = some r := H
    have A5 := Aside0.mk A50
    clear A50
    by_cases c6 : t409 = true
    · subst c6
      have H1 : ((manometerlaw02_laid.f k l0).bind fun bt411 => (if bt411.2 = true then (if a1 < 0 then (manometerlaw02_FrameTorn.j0 k l0 a1 bt411.1 bt411.2 true) else (manometerlaw02_FrameTorn.j0 k l0 a1 bt411.1 bt411.2 (decide (a1 > (bt411.1.length : Int))))) else (manometerlaw02_FrameTorn.j0 k l0 a1 bt411.1 bt411.2 true))) = some r := by rw [if_pos rfl] at H; exact H
      clear H
      have H := H1
      clear H1
      replace H := Option.bind_eq_some_iff.mp H
      obtain ⟨⟨t411, t412⟩, A70, H⟩ := H
      replace H : (if t412 = true then (if a1 < 0 then (manometerlaw02_FrameTorn.j0 k l0 a1 t411 t412 true) else (manometerlaw02_FrameTorn.j0 k l0 a1 t411 t412 (decide (a1 > (t411.length : Int))))) else (manometerlaw02_FrameTorn.j0 k l0 a1 t411 t412 true)) = some r := H
      have A7 := Aside0.mk A70
      clear A70
      have HC8 := Aside0.mk H
      clear H
      go_enter Tryd.func10, Tryd.ntmps10
      go_upto_region 4 with (first | ((with_reducible refine gate_callee (f := 11) rfl ?_); refine goesL_ (some 12) rfl rfl Tryd.func11 (by kernel_rfl) rfl #[] rfl (by (try simp only [List.map_toArray, List.map_cons, List.map_nil]); first | done | rfl | (simp only [List.length_drop, List.length_take]; rfl)) ?_; (with_reducible refine (manometerlaw02_live.calls k  true _ ?side1 A3.out).mono ?_); (case side1 => exact Glob.below HGlob.out (by repeat (first | (with_reducible first | exact HB.out | apply below_alloc | apply pw_below_drewN | apply below_drew1) | exact HB.out))); rintro e w9 ⟨rfl, hb⟩; refine ⟨_, rfl, ?_⟩; have n0_ := Aside0.mk (below_step (by repeat (first | (with_reducible first | exact HB.out | apply below_alloc | apply pw_below_drewN | apply below_drew1) | exact HB.out)) hb); clear HB; have HB := n0_; clear n0_; (try clear hb); (try clear hb2); (try clear hk); (try clear hi)) | (go_at_call 31; (with_reducible refine (manometerlaw02_few.calls k _ _ l0 true _ ?side1 ?side2 A5.out).mono ?_); (case side1 => repeat (first | exact (Kd.C_below HR0.out HB.out) | (with_reducible refine Kd.C_alloc ?_ _) | (with_reducible refine Kd.C_drewN ?_ _) | (with_reducible refine Kd.C_drew ?_))); (case side2 => exact HC0.out); rintro e w10 ⟨rfl, hb⟩; have n0_ := Aside0.mk (below_step (by repeat (first | (with_reducible first | exact HB.out | apply below_alloc | apply pw_below_drewN | apply below_drew1) | exact HB.out)) hb); clear HB; have HB := n0_; clear n0_; (try clear hb); (try clear hb2); (try clear hk); (try clear hi)) | ((with_reducible refine gate_callee (f := 32) rfl ?_); refine goesL_ (some 22) rfl rfl Tryd.func32 (by kernel_rfl) rfl #[.slice A0 l0.length c0] rfl (by (try simp only [List.map_toArray, List.map_cons, List.map_nil]); first | done | rfl | (simp only [List.length_drop, List.length_take]; rfl)) ?_; (with_reducible refine (manometerlaw02_laid.calls k _ _ l0 t411 t412 _ ?side1 ?side2 ?side3 A7.out).mono ?_); (case side1 => exact Glob.below HGlob.out (by repeat (first | (with_reducible first | exact HB.out | apply below_alloc | apply pw_below_drewN | apply below_drew1) | exact HB.out))); (case side2 => repeat (first | exact (Kd.C_below HR0.out HB.out) | (with_reducible refine Kd.C_alloc ?_ _) | (with_reducible refine Kd.C_drewN ?_ _) | (with_reducible refine Kd.C_drew ?_))); (case side3 => exact HC0.out); rintro e w11 ⟨v413, rfl, ho0, hb⟩; refine ⟨_, rfl, ?_⟩; have n0_ := Aside0.mk (Kd.R_lower ho0 (below_size (by repeat (first | (with_reducible first | exact HB.out | apply below_alloc | apply pw_below_drewN | apply below_drew1) | exact HB.out)))); have n1_ := Aside0.mk (below_step (by repeat (first | (with_reducible first | exact HB.out | apply below_alloc | apply pw_below_drewN | apply below_drew1) | exact HB.out)) hb); clear HB; have HO414 := n0_; have HB := n1_; clear n0_ n1_; (try clear hb); (try clear hb2); (try clear hk); (try clear hi); (try clear ho0)))
      (try simp only [Act.put, List.setIfInBounds_toArray, List.set_cons_zero, List.set_cons_succ])
      go_cut [36] (fun v36 wc => ∃ (kq : Nat) (x36_7 : Bool), v36 = .bool x36_7 ∧ Aside0 (manometerlaw02_FrameTorn.j0 kq l0 a1 t411 t412 x36_7 = some r) ∧ Aside0 (kq ≤ k) ∧ Aside0 (Kd.R (Kd.int .u8) 5 wc w.heap.size (fun _ => True) v413 t411) ∧ Aside0 (Below w.heap.size w wc))
      case first =>
        have H := HC8.out
        clear HC8
        by_cases c12 : t412 = true
        · subst c12
          have H1 : (if a1 < 0 then (manometerlaw02_FrameTorn.j0 k l0 a1 t411 true true) else (manometerlaw02_FrameTorn.j0 k l0 a1 t411 true (decide (a1 > (t411.length : Int))))) = some r := by rw [if_pos rfl] at H; exact H
          clear H
          have H := H1
          clear H1
          by_cases c13 : a1 < 0
          · rw [if_pos c13] at H
            have c13b0 : decide (a1 < 0) = true := decide_eq_true c13
            clear c13
            (first | rw [c13b0] | (simp only [i64_w, i32_w, xu32_w, xu8_w]; rw [c13b0]) | skip)
            have H' := Aside0.mk H
            clear H
            go_wp2
            go_meet
            case rel => exact ⟨_, (true), (by first | rfl | (simp; done) | (simp [*]; done)), H', ⟨by first | omega | exact Nat.le_refl _⟩, ⟨by (with_reducible repeat (first | apply Kd.R_alloc | apply Kd.R_drewN | apply Kd.R_drew)); exact HO414.out⟩, ⟨by repeat (first | (with_reducible first | exact HB.out | apply below_alloc | apply pw_below_drewN | apply below_drew1) | exact HB.out)⟩⟩
          · rw [if_neg c13] at H
            have c13b0 : decide (a1 < 0) = false := decide_eq_false c13
            clear c13
            (first | rw [c13b0] | (simp only [i64_w, i32_w, xu32_w, xu8_w]; rw [c13b0]) | skip)
            have H' := Aside0.mk H
            clear H
            obtain ⟨Ao14, co14, eo14⟩ := Kd.R_slice HO414.out
            subst eo14
            go_wp2
            go_meet
            case rel => exact ⟨_, (decide (a1 > (t411.length : Int))), (by first | rfl | (simp; done) | (simp [*]; done)), H', ⟨by first | omega | exact Nat.le_refl _⟩, ⟨by (with_reducible repeat (first | apply Kd.R_alloc | apply Kd.R_drewN | apply Kd.R_drew)); exact HO414.out⟩, ⟨by repeat (first | (with_reducible first | exact HB.out | apply below_alloc | apply pw_below_drewN | apply below_drew1) | exact HB.out)⟩⟩
        · replace c12 := Bool.eq_false_iff.mpr c12
          subst c12
          have H1 : (manometerlaw02_FrameTorn.j0 k l0 a1 t411 false true) = some r := by rw [if_neg (show ¬ (false = true) by decide)] at H; exact H
          clear H
          have H := H1
          clear H1
          have H' := Aside0.mk H
          clear H
          go_wp2
          go_meet
          case rel => exact ⟨_, (true), (by first | rfl | (simp; done) | (simp [*]; done)), H', ⟨by first | omega | exact Nat.le_refl _⟩, ⟨by (with_reducible repeat (first | apply Kd.R_alloc | apply Kd.R_drewN | apply Kd.R_drew)); exact HO414.out⟩, ⟨by repeat (first | (with_reducible first | exact HB.out | apply below_alloc | apply pw_below_drewN | apply below_drew1) | exact HB.out)⟩⟩
      case rest =>
        clear HC8
        try clear c1
        try clear p2
        try clear c3
        try clear c4
        try clear c6
        try clear c10
        try clear c11
        try clear c12
        try clear c13
        try clear c13b0
        obtain ⟨kq, x36_7, rfl, HA, HJ7, HO_5, HB⟩ := hcut
        cases kq with
        | zero => exact absurd HA.out (by simp [manometerlaw02_FrameTorn.j0])
        | succ kj7 =>
          have H := HA.out
          clear HA
          simp only [manometerlaw02_FrameTorn.j0] at H
          by_cases c15 : x36_7 = true
          · subst c15
            have H1 : (some t412) = some r := by rw [if_pos rfl] at H; exact H
            clear H
            have H := H1
            clear H1
            obtain rfl := Option.some.inj H
            go_wp2
            go_ret
            exact ⟨by first | rfl | (simp [errW_none, errW_some] <;> rfl) | (simp [*, errW_none, errW_some] <;> rfl), by repeat (first | (with_reducible first | exact HB.out | apply below_alloc | apply pw_below_drewN | apply below_drew1) | exact HB.out)⟩
          · replace c15 := Bool.eq_false_iff.mpr c15
            subst c15
            have H1 : (if 0 ≤ a1 then (if a1 ≤ (t411.length : Int) then ((frame_All.f kj7 (t411.take (a1 : Int).toNat)).bind fun bt419 => (manometerlaw02_FrameTorn.l0 kj7 l0 a1 bt419.1 bt419.2.1 bt419.2.2 0 0)) else (none)) else (none)) = some r := by rw [if_neg (show ¬ (false = true) by decide)] at H; exact H
            clear H
            have H := H1
            clear H1
            by_cases c16 : 0 ≤ a1
            rotate_left
            · rw [if_neg c16] at H
              exact absurd H (by simp)
            rw [if_pos c16] at H
            have c16b0 := eq_true c16
            have c16b1 : decide (0 ≤ a1) = true := decide_eq_true c16
            clear c16
            by_cases c17 : a1 ≤ (t411.length : Int)
            rotate_left
            · rw [if_neg c17] at H
              exact absurd H (by simp)
            rw [if_pos c17] at H
            have c17b0 := eq_true c17
            have c17b1 : decide (a1 ≤ (t411.length : Int)) = true := decide_eq_true c17
            clear c17
            obtain ⟨y415, hy415⟩ : ∃ y_ : List Int, y_ = (t411.take (a1 : Int).toNat) := ⟨_, rfl⟩
            replace H : ((frame_All.f kj7 y415).bind fun bt419 => (manometerlaw02_FrameTorn.l0 kj7 l0 a1 bt419.1 bt419.2.1 bt419.2.2 0 0)) = some r := by first | (rw [hy415]; with_reducible exact H) | (have H2_ := (Option.bind_some _ _).symm.trans H; rw [hy415]; with_reducible exact H2_) | (have H2_ := (Option.bind_some _ _).symm.trans H; with_reducible exact H2_) | with_reducible exact H | (rw [hy415]; exact H) | exact H
            have Ny415 := Aside0.mk hy415
            clear hy415
            replace H := Option.bind_eq_some_iff.mp H
            obtain ⟨⟨t419, t420, t421⟩, A180, H⟩ := H
            replace H : (manometerlaw02_FrameTorn.l0 kj7 l0 a1 t419 t420 t421 0 0) = some r := H
            have A18 := Aside0.mk A180
            clear A180
            have H' := Aside0.mk H
            clear H
            obtain ⟨Ao20, co20, eo20⟩ := Kd.R_slice HO_5.out
            subst eo20
            have q19 : (a1 : Int) ≤ ((t411.length : Int) : Int) := of_decide_eq_true (by first | (with_reducible assumption) | assumption)
            obtain ⟨i019, hi019, _, hsz19, _⟩ := info_parts info5
            have hroom19 : t411.length ≤ co20 := (Kd.R_reads' HO_5.out).2.1
            have hC19 : Kd.C (Kd.int .u8) _ Ao20 t411.length t411 := (Kd.R_reads' HO_5.out).2.2
            have hcut19 := cut_to (P := Tryd.prog) 22 5 .i64 Tryd.underlying22 hi019 Ao20 t411.length co20 a1 (of_decide_eq_true (by first | (with_reducible assumption) | assumption)) q19 hroom19
            have hr19 := Kd.C_take (m := (a1 : Int).toNat) hC19 (by omega)
            have hy19 : y415.length = (a1 : Int).toNat := (by rw [Ny415.out, List.length_take]; omega)
            rw [← Ny415.out] at hr19
            rw [← hy19] at hcut19
            have HR418 := Aside0.mk hr19
            have HC418 := Aside0.mk (show y415.length ≤ co20 from by omega)
            clear hr19 hC19 hroom19 hi019 hsz19
            have KY19 := Aside0.mk hy19
            clear hy19
            have KL19 := Aside0.mk (show (a1 : Int).toNat ≤ t411.length from by omega)
            replace q19 := eq_true q19
            go_wp2_with (first | ((with_reducible refine gate_callee (f := 28) rfl ?_); refine goesL_ (some 42) rfl rfl Tryd.func28 (by kernel_rfl) rfl #[.slice Ao20 y415.length co20] rfl (by (try simp only [List.map_toArray, List.map_cons, List.map_nil]); first | done | rfl | (simp only [List.length_drop, List.length_take]; rfl)) ?_; (with_reducible refine (frame_All.calls kj7 _ _ y415 t419 t420 t421 _ ?side1 ?side2 ?side3 A18.out).mono ?_); (case side1 => exact Glob.below HGlob.out (by repeat (first | (with_reducible first | exact HB.out | apply below_alloc | apply pw_below_drewN | apply below_drew1) | exact HB.out))); (case side2 => repeat (first | exact (by repeat (first | (with_reducible exact HR418.out) | (with_reducible refine Kd.C_alloc ?_ _) | (with_reducible refine Kd.C_drewN ?_ _) | (with_reducible refine Kd.C_drew ?_) | exact HR418.out)) | (with_reducible refine Kd.C_alloc ?_ _) | (with_reducible refine Kd.C_drewN ?_ _) | (with_reducible refine Kd.C_drew ?_))); (case side3 => exact HC418.out); rintro e w21 ⟨v422, rfl, ho0, hb⟩; refine ⟨_, rfl, ?_⟩; have n0_ := Aside0.mk (Kd.R_below (by (with_reducible repeat (first | apply Kd.R_alloc | apply Kd.R_drewN | apply Kd.R_drew)); exact HO_5.out) hb); have n1_ := Aside0.mk (Kd.S_lower (Kd.S_new' ho0 (Kd.R_lt (by (with_reducible repeat (first | apply Kd.R_alloc | apply Kd.R_drewN | apply Kd.R_drew)); exact HO_5.out))) (below_size (by repeat (first | (with_reducible first | exact HB.out | apply below_alloc | apply pw_below_drewN | apply below_drew1) | exact HB.out)))); have n2_ := Aside0.mk (Kd.C_below (by repeat (first | (with_reducible exact HR418.out) | (with_reducible refine Kd.C_alloc ?_ _) | (with_reducible refine Kd.C_drewN ?_ _) | (with_reducible refine Kd.C_drew ?_) | exact HR418.out)) hb); have n3_ := Aside0.mk (below_step (by repeat (first | (with_reducible first | exact HB.out | apply below_alloc | apply pw_below_drewN | apply below_drew1) | exact HB.out)) hb); clear HO_5; clear HR418; clear HB; have HO_5 := n0_; have HO423 := n1_; have HR418 := n2_; have HB := n3_; clear n0_ n1_ n2_ n3_; (try clear hb); (try clear hb2); (try clear hk); (try clear hi); (try clear ho0)))
            go_loopg [10, 11] kj7 (fun kq v10 v11 w' => ∃ (x10_2 : Int) (x11_2 : Int), v10 = .int .i64 x10_2 ∧ v11 = .int .i64 x11_2 ∧ Aside0 (manometerlaw02_FrameTorn.l0 kq l0 a1 t419 t420 t421 x10_2 x11_2 = some r) ∧ Aside0 (kq ≤ kj7) ∧ Aside0 (Kd.S (Kd.slice 5 (Kd.int .u8)) 22 w' w.heap.size (fun _ => True) v422 t419) ∧ Aside0 (Kd.C (Kd.int .u8) w' Ao20 y415.length y415) ∧ Aside0 (Below w.heap.size w w'))
            case atStart => exact ⟨(0), (0), (by first | rfl | (simp; done) | (simp [*]; done)), (by first | rfl | (simp; done) | (simp [*]; done)), H', ⟨Nat.le_refl _⟩, ⟨by (with_reducible repeat (first | apply Kd.S_alloc | apply Kd.S_drewN | apply Kd.S_drew)); exact Kd.S_mono HO423.out (fun _ hk => trivial)⟩, ⟨by repeat (first | (with_reducible exact HR418.out) | (with_reducible refine Kd.C_alloc ?_ _) | (with_reducible refine Kd.C_drewN ?_ _) | (with_reducible refine Kd.C_drew ?_) | exact HR418.out)⟩, ⟨by repeat (first | (with_reducible first | exact HB.out | apply below_alloc | apply pw_below_drewN | apply below_drew1) | exact HB.out)⟩⟩
            case round =>
              clear H'
              try clear c1
              try clear q1
              try clear c2
              try clear p2
              try clear c3
              try clear c4
              try clear c6
              try clear c10
              try clear c11
              try clear c12
              try clear c13
              try clear c13b0
              try clear c15
              try clear c16
              try clear c16b0
              try clear c16b1
              try clear c17
              try clear c17b0
              try clear c17b1
              try clear q19
              try clear p2
              try clear q19
              obtain ⟨x10_2, x11_2, rfl, rfl, HA, HK2, HO_7, HR418, HB⟩ := hrel
              cases gk with
              | zero => exact absurd HA.out (by simp [manometerlaw02_FrameTorn.l0])
              | succ k2 =>
                have H := HA.out
                clear HA
                simp only [manometerlaw02_FrameTorn.l0] at H
                have HC22 := Aside0.mk H
                clear H
                go_upto_region 8 with (fail)
                go_cut [61] (fun v61 wc => ∃ (kq : Nat) (x61_21 : Bool), v61 = .bool x61_21 ∧ Aside0 (manometerlaw02_FrameTorn.j2 kq l0 a1 t419 t420 t421 x10_2 x11_2 x61_21 = some r) ∧ Aside0 (kq ≤ k2) ∧ Aside0 (Kd.S (Kd.slice 5 (Kd.int .u8)) 22 wc w.heap.size (fun _ => True) v422 t419) ∧ Aside0 (Kd.C (Kd.int .u8) wc Ao20 y415.length y415) ∧ Aside0 (Below w.heap.size w wc))
                case first =>
                  have H := HC22.out
                  clear HC22
                  by_cases c23 : x10_2 < (l0.length : Int)
                  · rw [if_pos c23] at H
                    have c23b0 : decide (x10_2 < (l0.length : Int)) = true := decide_eq_true c23
                    clear c23
                    (first | rw [c23b0] | (simp only [i64_w, i32_w, xu32_w, xu8_w]; rw [c23b0]) | skip)
                    by_cases c24 : 0 ≤ x10_2
                    rotate_left
                    · rw [if_neg c24] at H
                      exact absurd H (by simp)
                    rw [if_pos c24] at H
                    have c24b0 : decide (0 ≤ x10_2) = true := decide_eq_true c24
                    clear c24
                    replace H := Option.bind_eq_some_iff.mp H
                    obtain ⟨t425, A250, H⟩ := H
                    replace H : (manometerlaw02_FrameTorn.j2 k2 l0 a1 t419 t420 t421 x10_2 x11_2 (decide ((wrap64 (x11_2 + t425)) ≤ a1))) = some r := H
                    have A25 := Aside0.mk A250
                    clear A250
                    have H' := Aside0.mk H
                    clear H
                    have p424 : 0 ≤ (x10_2 : Int) := of_decide_eq_true (by first | (with_reducible assumption) | assumption)
                    have q424 : x10_2 < (l0.length : Int) := of_decide_eq_true (by first | (with_reducible assumption) | assumption)
                    obtain ⟨ad424, A424_0, c424_0, e424, hx424_0, hl424_0, hi424_0⟩ := at_L2 HR0.out x10_2 p424 q424
                    cases e424
                    replace hx424_0 := (HB.out.cell (World.block_lt_of_cell? w _ hx424_0)).trans hx424_0
                    have HR424_0 := Aside0.mk hi424_0
                    have HC424_0 := Aside0.mk hl424_0
                    clear hi424_0 hl424_0
                    replace p424 := eq_true p424
                    replace q424 := eq_true q424
                    go_wp2_with (first | (go_at_call 15; (with_reducible refine (frame_Size.calls k2 ((rd_L2 l0 x10_2).length : Int) t425 _ A25.out).mono ?_); rintro e w26 ⟨rfl, hb⟩; have n0_ := Aside0.mk (Kd.S_below (by (with_reducible repeat (first | apply Kd.S_alloc | apply Kd.S_drewN | apply Kd.S_drew)); exact HO_7.out) hb); have n1_ := Aside0.mk (Kd.C_below (by repeat (first | (with_reducible exact HR418.out) | (with_reducible refine Kd.C_alloc ?_ _) | (with_reducible refine Kd.C_drewN ?_ _) | (with_reducible refine Kd.C_drew ?_) | exact HR418.out)) hb); have n2_ := Aside0.mk (below_step (by repeat (first | (with_reducible first | exact HB.out | apply below_alloc | apply pw_below_drewN | apply below_drew1) | exact HB.out)) hb); clear HO_7; clear HR418; clear HB; have HO_7 := n0_; have HR418 := n1_; have HB := n2_; clear n0_ n1_ n2_; (try clear hb); (try clear hb2); (try clear hk); (try clear hi)))
                    go_meet
                    case rel => exact ⟨_, (decide ((wrap64 (x11_2 + t425)) ≤ a1)), (by first | rfl | (simp; done) | (simp [*]; done)), H', ⟨by have := HJ7.out; have := HK2.out; first | omega | exact Nat.le_refl _⟩, ⟨by (with_reducible repeat (first | apply Kd.S_alloc | apply Kd.S_drewN | apply Kd.S_drew)); exact HO_7.out⟩, ⟨by repeat (first | (with_reducible exact HR418.out) | (with_reducible refine Kd.C_alloc ?_ _) | (with_reducible refine Kd.C_drewN ?_ _) | (with_reducible refine Kd.C_drew ?_) | exact HR418.out)⟩, ⟨by repeat (first | (with_reducible first | exact HB.out | apply below_alloc | apply pw_below_drewN | apply below_drew1) | exact HB.out)⟩⟩
                  · rw [if_neg c23] at H
                    have c23b0 : decide (x10_2 < (l0.length : Int)) = false := decide_eq_false c23
                    clear c23
                    (first | rw [c23b0] | (simp only [i64_w, i32_w, xu32_w, xu8_w]; rw [c23b0]) | skip)
                    have H' := Aside0.mk H
                    clear H
                    go_wp2
                    go_meet
                    case rel => exact ⟨_, (false), (by first | rfl | (simp; done) | (simp [*]; done)), H', ⟨by have := HJ7.out; have := HK2.out; first | omega | exact Nat.le_refl _⟩, ⟨by (with_reducible repeat (first | apply Kd.S_alloc | apply Kd.S_drewN | apply Kd.S_drew)); exact HO_7.out⟩, ⟨by repeat (first | (with_reducible exact HR418.out) | (with_reducible refine Kd.C_alloc ?_ _) | (with_reducible refine Kd.C_drewN ?_ _) | (with_reducible refine Kd.C_drew ?_) | exact HR418.out)⟩, ⟨by repeat (first | (with_reducible first | exact HB.out | apply below_alloc | apply pw_below_drewN | apply below_drew1) | exact HB.out)⟩⟩
                case rest =>
                  clear HC22
                  try clear c1
                  try clear q1
                  try clear c2
                  try clear p2
                  try clear c3
                  try clear c4
                  try clear p4
                  try clear q4
                  try clear hx4
                  try clear c6
                  try clear p6
                  try clear c10
                  try clear c11
                  try clear c12
                  try clear c13
                  try clear c13b0
                  try clear c15
                  try clear c16
                  try clear c16b0
                  try clear c16b1
                  try clear c17
                  try clear c17b0
                  try clear c17b1
                  try clear q19
                  try clear c23
                  try clear c23b0
                  try clear c24
                  try clear c24b0
                  try clear hx424_0
                  try clear p2
                  try clear p424
                  try clear q1
                  try clear q19
                  try clear q424
                  obtain ⟨kq, x61_21, rfl, HA, HJ21, HO_7, HR418, HB⟩ := hcut
                  cases kq with
                  | zero => exact absurd HA.out (by simp [manometerlaw02_FrameTorn.j2])
                  | succ kj21 =>
                    have H := HA.out
                    clear HA
                    simp only [manometerlaw02_FrameTorn.j2] at H
                    by_cases c27 : x61_21 = true
                    · subst c27
                      have H1 : (if 0 ≤ x10_2 then (if x10_2 < (l0.length : Int) then ((frame_Size.f kj21 ((rd_L2 l0 x10_2).length : Int)).bind fun t427 => (manometerlaw02_FrameTorn.l0 kj21 l0 a1 t419 t420 t421 (wrap64 (x10_2 + 1)) (wrap64 (x11_2 + t427)))) else (none)) else (none)) = some r := by rw [if_pos rfl] at H; exact H
                      clear H
                      have H := H1
                      clear H1
                      by_cases c28 : 0 ≤ x10_2
                      rotate_left
                      · rw [if_neg c28] at H
                        exact absurd H (by simp)
                      rw [if_pos c28] at H
                      have c28b0 : decide (0 ≤ x10_2) = true := decide_eq_true c28
                      clear c28
                      by_cases c29 : x10_2 < (l0.length : Int)
                      rotate_left
                      · rw [if_neg c29] at H
                        exact absurd H (by simp)
                      rw [if_pos c29] at H
                      have c29b0 : decide (x10_2 < (l0.length : Int)) = true := decide_eq_true c29
                      clear c29
                      replace H := Option.bind_eq_some_iff.mp H
                      obtain ⟨t427, A300, H⟩ := H
                      replace H : (manometerlaw02_FrameTorn.l0 kj21 l0 a1 t419 t420 t421 (wrap64 (x10_2 + 1)) (wrap64 (x11_2 + t427))) = some r := H
                      have A30 := Aside0.mk A300
                      clear A300
                      have H' := Aside0.mk H
                      clear H
                      have p426 : 0 ≤ (x10_2 : Int) := of_decide_eq_true (by first | (with_reducible assumption) | assumption)
                      have q426 : x10_2 < (l0.length : Int) := of_decide_eq_true (by first | (with_reducible assumption) | assumption)
                      obtain ⟨ad426, A426_0, c426_0, e426, hx426_0, hl426_0, hi426_0⟩ := at_L2 HR0.out x10_2 p426 q426
                      cases e426
                      replace hx426_0 := (HB.out.cell (World.block_lt_of_cell? w _ hx426_0)).trans hx426_0
                      have HR426_0 := Aside0.mk hi426_0
                      have HC426_0 := Aside0.mk hl426_0
                      clear hi426_0 hl426_0
                      replace p426 := eq_true p426
                      replace q426 := eq_true q426
                      go_wp2_with (first | ((with_reducible refine gate_callee (f := 15) rfl ?_); refine goesL_ (some 68) rfl rfl Tryd.func15 (by kernel_rfl) rfl #[.int .i64 ((rd_L2 l0 x10_2).length : Int)] rfl (by (try simp only [List.map_toArray, List.map_cons, List.map_nil]); first | done | rfl | (simp only [List.length_drop, List.length_take]; rfl)) ?_; (with_reducible refine (frame_Size.calls kj21 ((rd_L2 l0 x10_2).length : Int) t427 _ A30.out).mono ?_); rintro e w31 ⟨rfl, hb⟩; refine ⟨_, rfl, ?_⟩; have n0_ := Aside0.mk (Kd.S_below (by (with_reducible repeat (first | apply Kd.S_alloc | apply Kd.S_drewN | apply Kd.S_drew)); exact HO_7.out) hb); have n1_ := Aside0.mk (Kd.C_below (by repeat (first | (with_reducible exact HR418.out) | (with_reducible refine Kd.C_alloc ?_ _) | (with_reducible refine Kd.C_drewN ?_ _) | (with_reducible refine Kd.C_drew ?_) | exact HR418.out)) hb); have n2_ := Aside0.mk (below_step (by repeat (first | (with_reducible first | exact HB.out | apply below_alloc | apply pw_below_drewN | apply below_drew1) | exact HB.out)) hb); clear HO_7; clear HR418; clear HB; have HO_7 := n0_; have HR418 := n1_; have HB := n2_; clear n0_ n1_ n2_; (try clear hb); (try clear hb2); (try clear hk); (try clear hi)))
                      go_roundg kj21
                      case measure => have := HJ7.out; have := HK2.out; have := HJ21.out; omega
                      case rel => exact ⟨(wrap64 (x10_2 + 1)), (wrap64 (x11_2 + t427)), (by first | rfl | (simp; done) | (simp [*]; done)), (by first | rfl | (simp; done) | (simp [*]; done)), H', ⟨by have := HJ7.out; have := HK2.out; have := HJ21.out; omega⟩, ⟨by (with_reducible repeat (first | apply Kd.S_alloc | apply Kd.S_drewN | apply Kd.S_drew)); exact HO_7.out⟩, ⟨by repeat (first | (with_reducible exact HR418.out) | (with_reducible refine Kd.C_alloc ?_ _) | (with_reducible refine Kd.C_drewN ?_ _) | (with_reducible refine Kd.C_drew ?_) | exact HR418.out)⟩, ⟨by repeat (first | (with_reducible first | exact HB.out | apply below_alloc | apply pw_below_drewN | apply below_drew1) | exact HB.out)⟩⟩
                    · replace c27 := Bool.eq_false_iff.mpr c27
                      subst c27
                      have H1 : (if 0 ≤ x10_2 then (if x10_2 ≤ (l0.length : Int) then ((manometerlaw02_same.f kj21 t419 (l0.take (x10_2 : Int).toNat)).bind fun t432 => (if t432 = true then (if t420 = x11_2 then (if ((t421 == 0) == (x11_2 == a1)) = true then (if t421 = 0 then (some true) else (some (t421 == 6))) else (some false)) else (some false)) else (some false))) else (none)) else (none)) = some r := by rw [if_neg (show ¬ (false = true) by decide)] at H; exact H
                      clear H
                      have H := H1
                      clear H1
                      by_cases c32 : 0 ≤ x10_2
                      rotate_left
                      · rw [if_neg c32] at H
                        exact absurd H (by simp)
                      rw [if_pos c32] at H
                      have c32b0 := eq_true c32
                      have c32b1 : decide (0 ≤ x10_2) = true := decide_eq_true c32
                      clear c32
                      by_cases c33 : x10_2 ≤ (l0.length : Int)
                      rotate_left
                      · rw [if_neg c33] at H
                        exact absurd H (by simp)
                      rw [if_pos c33] at H
                      have c33b0 := eq_true c33
                      have c33b1 : decide (x10_2 ≤ (l0.length : Int)) = true := decide_eq_true c33
                      clear c33
                      obtain ⟨y428, hy428⟩ : ∃ y_ : List (List Int), y_ = (l0.take (x10_2 : Int).toNat) := ⟨_, rfl⟩
                      replace H : ((manometerlaw02_same.f kj21 t419 y428).bind fun t432 => (if t432 = true then (if t420 = x11_2 then (if ((t421 == 0) == (x11_2 == a1)) = true then (if t421 = 0 then (some true) else (some (t421 == 6))) else (some false)) else (some false)) else (some false))) = some r := by first | (rw [hy428]; with_reducible exact H) | (have H2_ := (Option.bind_some _ _).symm.trans H; rw [hy428]; with_reducible exact H2_) | (have H2_ := (Option.bind_some _ _).symm.trans H; with_reducible exact H2_) | with_reducible exact H | (rw [hy428]; exact H) | exact H
                      have Ny428 := Aside0.mk hy428
                      clear hy428
                      replace H := Option.bind_eq_some_iff.mp H
                      obtain ⟨t432, A340, H⟩ := H
                      replace H : (if t432 = true then (if t420 = x11_2 then (if ((t421 == 0) == (x11_2 == a1)) = true then (if t421 = 0 then (some true) else (some (t421 == 6))) else (some false)) else (some false)) else (some false)) = some r := H
                      have A34 := Aside0.mk A340
                      clear A340
                      by_cases c35 : t432 = true
                      · subst c35
                        have H1 : (if t420 = x11_2 then (if ((t421 == 0) == (x11_2 == a1)) = true then (if t421 = 0 then (some true) else (some (t421 == 6))) else (some false)) else (some false)) = some r := by rw [if_pos rfl] at H; exact H
                        clear H
                        have H := H1
                        clear H1
                        by_cases c36 : t420 = x11_2
                        rotate_left
                        · rw [if_neg c36] at H
                          have c36b0 : (t420 == x11_2) = false := beq_eq_false_iff_ne.mpr c36
                          have c36b1 : (t420 != x11_2) = true := bne_iff_ne.mpr c36
                          obtain rfl := Option.some.inj H
                          exact absurd HT_r.out (by decide)
                        rw [if_pos c36] at H
                        have c36b0 : (t420 == x11_2) = true := beq_iff_eq.mpr c36
                        have c36b1 : (t420 != x11_2) = false := bne_eq_false_iff_eq.mpr c36
                        clear c36
                        by_cases c37 : ((t421 == 0) == (x11_2 == a1)) = true
                        rotate_left
                        · rw [if_neg c37] at H
                          have c37b0 : ((t421 == 0) == (x11_2 == a1)) = false := by simpa using c37
                          (try (have c37b1 : decide ((t421 == 0) = (x11_2 == a1)) = false := by simpa using c37))
                          (try (have c37b2 : ((t421 == 0) == (x11_2 == a1)) = false := by simpa using c37))
                          (try (have c37b3 : ¬ ((t421 == 0) = (x11_2 == a1)) := by simpa using c37))
                          clear c37
                          obtain rfl := Option.some.inj H
                          exact absurd HT_r.out (by decide)
                        rw [if_pos c37] at H
                        have c37b0 : ((t421 == 0) == (x11_2 == a1)) = true := c37
                        (try (have c37b1 : decide ((t421 == 0) = (x11_2 == a1)) = true := by simpa using c37))
                        (try (have c37b2 : ((t421 == 0) == (x11_2 == a1)) = true := by simpa using c37))
                        clear c37
                        by_cases c38 : t421 = 0
                        · rw [if_pos c38] at H
                          have c38b0 : (t421 == 0) = true := beq_iff_eq.mpr c38
                          have c38b1 : (t421 != 0) = false := bne_eq_false_iff_eq.mpr c38
                          have EQc38 := Aside0.mk c38
                          have z38_ : (x11_2 == a1) = true := by have h_ := c37b0; rw [c38b0] at h_; simpa using h_
                          clear c38
                          obtain rfl := Option.some.inj H
                          have q39 : (x10_2 : Int) ≤ ((l0.length : Int) : Int) := of_decide_eq_true (by first | (with_reducible assumption) | assumption)
                          obtain ⟨i039, hi039, _, hsz39, _⟩ := info_parts info22
                          have hroom39 : l0.length ≤ c0 := HC0.out
                          have hC39 : Kd.C (Kd.slice 5 (Kd.int .u8)) _ A0 l0.length l0 := HR0.out
                          have hcut39 := cut_to (P := Tryd.prog) 41 22 .i64 Tryd.underlying41 hi039 A0 l0.length c0 x10_2 (of_decide_eq_true (by first | (with_reducible assumption) | assumption)) q39 hroom39
                          have hr39 := Kd.C_take (m := (x10_2 : Int).toNat) hC39 (by omega)
                          have hy39 : y428.length = (x10_2 : Int).toNat := (by rw [Ny428.out, List.length_take]; omega)
                          rw [← Ny428.out] at hr39
                          rw [← hy39] at hcut39
                          have HR431 := Aside0.mk hr39
                          have HC431 := Aside0.mk (show y428.length ≤ c0 from by omega)
                          clear hr39 hC39 hroom39 hi039 hsz39
                          have KY39 := Aside0.mk hy39
                          clear hy39
                          replace q39 := eq_true q39
                          obtain ⟨Ao40, co40, eo40⟩ := Kd.S_slice HO_7.out
                          subst eo40
                          go_wp2_with (first | ((with_reducible refine gate_callee (f := 30) rfl ?_); refine goesL_ (some 76) rfl rfl Tryd.func30 (by kernel_rfl) rfl #[.slice Ao40 t419.length co40, .slice A0 y428.length c0] rfl (by (try simp only [List.map_toArray, List.map_cons, List.map_nil]); first | done | rfl | (simp only [List.length_drop, List.length_take]; rfl)) ?_; (with_reducible refine (manometerlaw02_same.calls kj21 _ _ t419 _ _ y428 true _ ?side1 ?side2 ?side3 ?side4 A34.out).mono ?_); (case side1 => repeat (first | exact (Kd.S_reads' HO_7.out).2.2 | (with_reducible refine Kd.C_alloc ?_ _) | (with_reducible refine Kd.C_drewN ?_ _) | (with_reducible refine Kd.C_drew ?_))); (case side2 => exact (Kd.S_reads' HO_7.out).2.1); (case side3 => repeat (first | exact (Kd.C_below HR431.out HB.out) | (with_reducible refine Kd.C_alloc ?_ _) | (with_reducible refine Kd.C_drewN ?_ _) | (with_reducible refine Kd.C_drew ?_))); (case side4 => exact HC431.out); rintro e w41 ⟨rfl, hb⟩; refine ⟨_, rfl, ?_⟩; have n0_ := Aside0.mk (Kd.S_below (by (with_reducible repeat (first | apply Kd.S_alloc | apply Kd.S_drewN | apply Kd.S_drew)); exact HO_7.out) hb); have n1_ := Aside0.mk (Kd.C_below (by repeat (first | (with_reducible exact HR418.out) | (with_reducible refine Kd.C_alloc ?_ _) | (with_reducible refine Kd.C_drewN ?_ _) | (with_reducible refine Kd.C_drew ?_) | exact HR418.out)) hb); have n2_ := Aside0.mk (below_step (by repeat (first | (with_reducible first | exact HB.out | apply below_alloc | apply pw_below_drewN | apply below_drew1) | exact HB.out)) hb); clear HO_7; clear HR418; clear HB; have HO_7 := n0_; have HR418 := n1_; have HB := n2_; clear n0_ n1_ n2_; (try clear hb); (try clear hb2); (try clear hk); (try clear hi)))
                          go_ret
                          exact ⟨by first | rfl | (simp [errW_none, errW_some] <;> rfl) | (simp [*, errW_none, errW_some] <;> rfl), by repeat (first | (with_reducible first | exact HB.out | apply below_alloc | apply pw_below_drewN | apply below_drew1) | exact HB.out)⟩
                        · rw [if_neg c38] at H
                          have c38b0 : (t421 == 0) = false := beq_eq_false_iff_ne.mpr c38
                          have c38b1 : (t421 != 0) = true := bne_iff_ne.mpr c38
                          obtain rfl := Option.some.inj H
                          have z38_ : (x11_2 == a1) = false := by have h_ := c37b0; rw [c38b0] at h_; simpa using h_
                          have x38_ : (t421 == 6) = true := HT_r.out
                          try clear hcut39
                          have q42 : (x10_2 : Int) ≤ ((l0.length : Int) : Int) := of_decide_eq_true (by first | (with_reducible assumption) | assumption)
                          obtain ⟨i042, hi042, _, hsz42, _⟩ := info_parts info22
                          have hroom42 : l0.length ≤ c0 := HC0.out
                          have hC42 : Kd.C (Kd.slice 5 (Kd.int .u8)) _ A0 l0.length l0 := HR0.out
                          have hcut42 := cut_to (P := Tryd.prog) 41 22 .i64 Tryd.underlying41 hi042 A0 l0.length c0 x10_2 (of_decide_eq_true (by first | (with_reducible assumption) | assumption)) q42 hroom42
                          have hr42 := Kd.C_take (m := (x10_2 : Int).toNat) hC42 (by omega)
                          have hy42 : y428.length = (x10_2 : Int).toNat := (by rw [Ny428.out, List.length_take]; omega)
                          rw [← Ny428.out] at hr42
                          rw [← hy42] at hcut42
                          have HR431 := Aside0.mk hr42
                          have HC431 := Aside0.mk (show y428.length ≤ c0 from by omega)
                          clear hr42 hC42 hroom42 hi042 hsz42
                          have KY42 := Aside0.mk hy42
                          clear hy42
                          replace q42 := eq_true q42
                          obtain ⟨Ao43, co43, eo43⟩ := Kd.S_slice HO_7.out
                          subst eo43
                          go_wp2_with (first | ((with_reducible refine gate_callee (f := 30) rfl ?_); refine goesL_ (some 76) rfl rfl Tryd.func30 (by kernel_rfl) rfl #[.slice Ao43 t419.length co43, .slice A0 y428.length c0] rfl (by (try simp only [List.map_toArray, List.map_cons, List.map_nil]); first | done | rfl | (simp only [List.length_drop, List.length_take]; rfl)) ?_; (with_reducible refine (manometerlaw02_same.calls kj21 _ _ t419 _ _ y428 true _ ?side1 ?side2 ?side3 ?side4 A34.out).mono ?_); (case side1 => repeat (first | exact (Kd.S_reads' HO_7.out).2.2 | (with_reducible refine Kd.C_alloc ?_ _) | (with_reducible refine Kd.C_drewN ?_ _) | (with_reducible refine Kd.C_drew ?_))); (case side2 => exact (Kd.S_reads' HO_7.out).2.1); (case side3 => repeat (first | exact (Kd.C_below HR431.out HB.out) | (with_reducible refine Kd.C_alloc ?_ _) | (with_reducible refine Kd.C_drewN ?_ _) | (with_reducible refine Kd.C_drew ?_))); (case side4 => exact HC431.out); rintro e w44 ⟨rfl, hb⟩; refine ⟨_, rfl, ?_⟩; have n0_ := Aside0.mk (Kd.S_below (by (with_reducible repeat (first | apply Kd.S_alloc | apply Kd.S_drewN | apply Kd.S_drew)); exact HO_7.out) hb); have n1_ := Aside0.mk (Kd.C_below (by repeat (first | (with_reducible exact HR418.out) | (with_reducible refine Kd.C_alloc ?_ _) | (with_reducible refine Kd.C_drewN ?_ _) | (with_reducible refine Kd.C_drew ?_) | exact HR418.out)) hb); have n2_ := Aside0.mk (below_step (by repeat (first | (with_reducible first | exact HB.out | apply below_alloc | apply pw_below_drewN | apply below_drew1) | exact HB.out)) hb); clear HO_7; clear HR418; clear HB; have HO_7 := n0_; have HR418 := n1_; have HB := n2_; clear n0_ n1_ n2_; (try clear hb); (try clear hb2); (try clear hk); (try clear hi)))
                          go_ret
                          exact ⟨by first | rfl | (simp [errW_none, errW_some] <;> rfl) | (simp [*, errW_none, errW_some] <;> rfl), by repeat (first | (with_reducible first | exact HB.out | apply below_alloc | apply pw_below_drewN | apply below_drew1) | exact HB.out)⟩
                      · replace c35 := Bool.eq_false_iff.mpr c35
                        subst c35
                        have H1 : (some false) = some r := by rw [if_neg (show ¬ (false = true) by decide)] at H; exact H
                        clear H
                        have H := H1
                        clear H1
                        obtain rfl := Option.some.inj H
                        exact absurd HT_r.out (by decide)
    · replace c6 := Bool.eq_false_iff.mpr c6
      subst c6
      have H1 : ((manometerlaw02_live.f k).bind fun t410 => (if t410 = true then (some t410) else (none))) = some r := by rw [if_neg (show ¬ (false = true) by decide)] at H; exact H
      clear H
      have H := H1
      clear H1
      replace H := Option.bind_eq_some_iff.mp H
      obtain ⟨t410, A450, H⟩ := H
      replace H : (if t410 = true then (some t410) else (none)) = some r := H
      have A45 := Aside0.mk A450
      clear A450
      by_cases c46 : t410 = true
      · subst c46
        have H1 : (some true) = some r := by rw [if_pos rfl] at H; exact H
        clear H
        have H := H1
        clear H1
        obtain rfl := Option.some.inj H
        go_enter Tryd.func10, Tryd.ntmps10
        go_wp2_with (first | ((with_reducible refine gate_callee (f := 11) rfl ?_); refine goesL_ (some 12) rfl rfl Tryd.func11 (by kernel_rfl) rfl #[] rfl (by (try simp only [List.map_toArray, List.map_cons, List.map_nil]); first | done | rfl | (simp only [List.length_drop, List.length_take]; rfl)) ?_; (with_reducible refine (manometerlaw02_live.calls k  true _ ?side1 A3.out).mono ?_); (case side1 => exact Glob.below HGlob.out (by repeat (first | (with_reducible first | exact HB.out | apply below_alloc | apply pw_below_drewN | apply below_drew1) | exact HB.out))); rintro e w47 ⟨rfl, hb⟩; refine ⟨_, rfl, ?_⟩; have n0_ := Aside0.mk (below_step (by repeat (first | (with_reducible first | exact HB.out | apply below_alloc | apply pw_below_drewN | apply below_drew1) | exact HB.out)) hb); clear HB; have HB := n0_; clear n0_; (try clear hb); (try clear hb2); (try clear hk); (try clear hi)) | (go_at_call 31; (with_reducible refine (manometerlaw02_few.calls k _ _ l0 false _ ?side1 ?side2 A5.out).mono ?_); (case side1 => repeat (first | exact (Kd.C_below HR0.out HB.out) | (with_reducible refine Kd.C_alloc ?_ _) | (with_reducible refine Kd.C_drewN ?_ _) | (with_reducible refine Kd.C_drew ?_))); (case side2 => exact HC0.out); rintro e w48 ⟨rfl, hb⟩; have n0_ := Aside0.mk (below_step (by repeat (first | (with_reducible first | exact HB.out | apply below_alloc | apply pw_below_drewN | apply below_drew1) | exact HB.out)) hb); clear HB; have HB := n0_; clear n0_; (try clear hb); (try clear hb2); (try clear hk); (try clear hi)) | ((with_reducible refine gate_callee (f := 11) rfl ?_); refine goesL_ (some 19) rfl rfl Tryd.func11 (by kernel_rfl) rfl #[] rfl (by (try simp only [List.map_toArray, List.map_cons, List.map_nil]); first | done | rfl | (simp only [List.length_drop, List.length_take]; rfl)) ?_; (with_reducible refine (manometerlaw02_live.calls k  true _ ?side1 A45.out).mono ?_); (case side1 => exact Glob.below HGlob.out (by repeat (first | (with_reducible first | exact HB.out | apply below_alloc | apply pw_below_drewN | apply below_drew1) | exact HB.out))); rintro e w49 ⟨rfl, hb⟩; refine ⟨_, rfl, ?_⟩; have n0_ := Aside0.mk (below_step (by repeat (first | (with_reducible first | exact HB.out | apply below_alloc | apply pw_below_drewN | apply below_drew1) | exact HB.out)) hb); clear HB; have HB := n0_; clear n0_; (try clear hb); (try clear hb2); (try clear hk); (try clear hi)))
        go_ret
        exact ⟨by first | rfl | (simp [errW_none, errW_some] <;> rfl) | (simp [*, errW_none, errW_some] <;> rfl), by repeat (first | (with_reducible first | exact HB.out | apply below_alloc | apply pw_below_drewN | apply below_drew1) | exact HB.out)⟩
      · replace c46 := Bool.eq_false_iff.mpr c46
        subst c46
        have H1 : (none) = some r := by rw [if_neg (show ¬ (false = true) by decide)] at H; exact H
        clear H
        have H := H1
        clear H1
        exact absurd H (by simp)
  · replace c4 := Bool.eq_false_iff.mpr c4
    subst c4
    have H1 : (none) = some r := by rw [if_neg (show ¬ (false = true) by decide)] at H; exact H
    clear H
    have H := H1
    clear H1
    exact absurd H (by simp)

end Go.Proofs.YtmppjcendcbamaaDoor.Q
