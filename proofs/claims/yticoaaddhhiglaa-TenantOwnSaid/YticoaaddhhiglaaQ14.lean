-- Laid by this session's turned edition of print.py out of the translation. Not trusted: Lean checks it.
import Derived.Test.YticoaaddhhiglaaQ0
import Derived.Test.YticoaaddhhiglaaQ10
namespace Go.Proofs.Yticoaaddhhiglaa.Q
open Go.RowKit Go.Proofs.YticoaaddhhiglaaW.PrintWords Go.Proofs.YticoaaddhhiglaaW.PrintLast Go.Proofs.YticoaaddhhiglaaW.PrintMore
attribute [local go_sem] max2_int min2_int max_two min_two max_three min_three max_four min_four   -- for this text's walks alone
set_option linter.unusedVariables false
set_option linter.unusedSimpArgs false
mutual
def manometerref18_Same.j0 : Nat → Bool → ByteArray → List (S23) → Int → Int → Int → Int → Int → Int → List ByteArray → ByteArray → List (S23) → Int → Int → Int → Int → Int → Int → List ByteArray → Option (Bool)
  | 0, _, _, _, _, _, _, _, _, _, _, _, _, _, _, _, _, _, _, _ => none
  | k + 1, x40, x247000, x247001, x247002, x247003, x247004, x247005, x247006, x247007, x247008, x248000, x248001, x248002, x248003, x248004, x248005, x248006, x248007, x248008 => if x40 = true then (some false) else (manometerref18_Same.l0 k (x247001.length : Int) 0 x247000 x247001 x247002 x247003 x247004 x247005 x247006 x247007 x247008 x248000 x248001 x248002 x248003 x248004 x248005 x248006 x248007 x248008)
def manometerref18_Same.l0 : Nat → Int → Int → ByteArray → List (S23) → Int → Int → Int → Int → Int → Int → List ByteArray → ByteArray → List (S23) → Int → Int → Int → Int → Int → Int → List ByteArray → Option (Bool)
  | 0, _, _, _, _, _, _, _, _, _, _, _, _, _, _, _, _, _, _, _, _ => none
  | k + 1, x43, x44, x247000, x247001, x247002, x247003, x247004, x247005, x247006, x247007, x247008, x248000, x248001, x248002, x248003, x248004, x248005, x248006, x248007, x248008 => if x44 < x43 then (if 0 ≤ x44 then (if x44 < (x247001.length : Int) then (if x44 < (x248001.length : Int) then (if ((rd_T23 x247001 x44).f0) = ((rd_T23 x248001 x44).f0) then (if (((rd_T23 x247001 x44).f1).toList) = (((rd_T23 x248001 x44).f1).toList) then (manometerref18_Same.l0 k x43 (wrap64 (x44 + 1)) x247000 x247001 x247002 x247003 x247004 x247005 x247006 x247007 x247008 x248000 x248001 x248002 x248003 x248004 x248005 x248006 x248007 x248008) else (some false)) else (some false)) else (none)) else (none)) else (none)) else ((manometerref18_Words.f k x247008 x248008).bind fun t250 => (some t250))
end
def manometerref18_Same.f (k : Nat) (a0_0 : ByteArray) (l0_1 : List (S23)) (a0_2 : Int) (a0_3 : Int) (a0_4 : Int) (a0_5 : Int) (a0_6 : Int) (a0_7 : Int) (l0_8 : List ByteArray) (a1_0 : ByteArray) (l1_1 : List (S23)) (a1_2 : Int) (a1_3 : Int) (a1_4 : Int) (a1_5 : Int) (a1_6 : Int) (a1_7 : Int) (l1_8 : List ByteArray) : Option (Bool) := if a0_0.toList = a1_0.toList then (if a0_2 = a1_2 then (if a0_3 = a1_3 then (if a0_4 = a1_4 then (if a0_5 = a1_5 then (if a0_6 = a1_6 then (if a0_7 = a1_7 then (manometerref18_Same.j0 k ((l0_1.length : Int) != (l1_1.length : Int)) a0_0 l0_1 a0_2 a0_3 a0_4 a0_5 a0_6 a0_7 l0_8 a1_0 l1_1 a1_2 a1_3 a1_4 a1_5 a1_6 a1_7 l1_8) else (manometerref18_Same.j0 k true a0_0 l0_1 a0_2 a0_3 a0_4 a0_5 a0_6 a0_7 l0_8 a1_0 l1_1 a1_2 a1_3 a1_4 a1_5 a1_6 a1_7 l1_8)) else (manometerref18_Same.j0 k true a0_0 l0_1 a0_2 a0_3 a0_4 a0_5 a0_6 a0_7 l0_8 a1_0 l1_1 a1_2 a1_3 a1_4 a1_5 a1_6 a1_7 l1_8)) else (manometerref18_Same.j0 k true a0_0 l0_1 a0_2 a0_3 a0_4 a0_5 a0_6 a0_7 l0_8 a1_0 l1_1 a1_2 a1_3 a1_4 a1_5 a1_6 a1_7 l1_8)) else (manometerref18_Same.j0 k true a0_0 l0_1 a0_2 a0_3 a0_4 a0_5 a0_6 a0_7 l0_8 a1_0 l1_1 a1_2 a1_3 a1_4 a1_5 a1_6 a1_7 l1_8)) else (manometerref18_Same.j0 k true a0_0 l0_1 a0_2 a0_3 a0_4 a0_5 a0_6 a0_7 l0_8 a1_0 l1_1 a1_2 a1_3 a1_4 a1_5 a1_6 a1_7 l1_8)) else (manometerref18_Same.j0 k true a0_0 l0_1 a0_2 a0_3 a0_4 a0_5 a0_6 a0_7 l0_8 a1_0 l1_1 a1_2 a1_3 a1_4 a1_5 a1_6 a1_7 l1_8)) else (manometerref18_Same.j0 k true a0_0 l0_1 a0_2 a0_3 a0_4 a0_5 a0_6 a0_7 l0_8 a1_0 l1_1 a1_2 a1_3 a1_4 a1_5 a1_6 a1_7 l1_8)
theorem manometerref18_Same.mono_l : ∀ k, (∀ y0 y1 y2 y3 y4 y5 y6 y7 y8 y9 y10 y11 y12 y13 y14 y15 y16 y17 y18, LeO (manometerref18_Same.j0 k y0 y1 y2 y3 y4 y5 y6 y7 y8 y9 y10 y11 y12 y13 y14 y15 y16 y17 y18) (manometerref18_Same.j0 (k + 1) y0 y1 y2 y3 y4 y5 y6 y7 y8 y9 y10 y11 y12 y13 y14 y15 y16 y17 y18)) ∧ (∀ y0 y1 y2 y3 y4 y5 y6 y7 y8 y9 y10 y11 y12 y13 y14 y15 y16 y17 y18 y19, LeO (manometerref18_Same.l0 k y0 y1 y2 y3 y4 y5 y6 y7 y8 y9 y10 y11 y12 y13 y14 y15 y16 y17 y18 y19) (manometerref18_Same.l0 (k + 1) y0 y1 y2 y3 y4 y5 y6 y7 y8 y9 y10 y11 y12 y13 y14 y15 y16 y17 y18 y19))
  | 0 => ⟨fun _ _ _ _ _ _ _ _ _ _ _ _ _ _ _ _ _ _ _ r h => by simp [manometerref18_Same.j0] at h, fun _ _ _ _ _ _ _ _ _ _ _ _ _ _ _ _ _ _ _ _ r h => by simp [manometerref18_Same.l0] at h⟩
  | k + 1 => by
    obtain ⟨ih0, ih1⟩ := manometerref18_Same.mono_l k
    refine ⟨?_, ?_⟩
    · intro y0 y1 y2 y3 y4 y5 y6 y7 y8 y9 y10 y11 y12 y13 y14 y15 y16 y17 y18
      unfold manometerref18_Same.j0
      repeat' first
      | (with_reducible exact ih0 _ _ _ _ _ _ _ _ _ _ _ _ _ _ _ _ _ _ _)
      | (with_reducible exact ih1 _ _ _ _ _ _ _ _ _ _ _ _ _ _ _ _ _ _ _ _)
      | (with_reducible exact manometerref18_Words.mono _ _ _)
      | (with_reducible exact LeO.refl _)
      | (with_reducible exact LeO.none _)
      | (with_reducible refine LeO.ite ?_ ?_)
      | (with_reducible refine LeO.bind ?_ (fun _ => ?_))
      | exact ih0 _ _ _ _ _ _ _ _ _ _ _ _ _ _ _ _ _ _ _
      | exact ih1 _ _ _ _ _ _ _ _ _ _ _ _ _ _ _ _ _ _ _ _
      | exact manometerref18_Words.mono _ _ _
      | exact LeO.none _
      | refine LeO.ite ?_ ?_
      | refine LeO.bind ?_ (fun _ => ?_)
    · intro y0 y1 y2 y3 y4 y5 y6 y7 y8 y9 y10 y11 y12 y13 y14 y15 y16 y17 y18 y19
      unfold manometerref18_Same.l0
      repeat' first
      | (with_reducible exact ih0 _ _ _ _ _ _ _ _ _ _ _ _ _ _ _ _ _ _ _)
      | (with_reducible exact ih1 _ _ _ _ _ _ _ _ _ _ _ _ _ _ _ _ _ _ _ _)
      | (with_reducible exact manometerref18_Words.mono _ _ _)
      | (with_reducible exact LeO.refl _)
      | (with_reducible exact LeO.none _)
      | (with_reducible refine LeO.ite ?_ ?_)
      | (with_reducible refine LeO.bind ?_ (fun _ => ?_))
      | exact ih0 _ _ _ _ _ _ _ _ _ _ _ _ _ _ _ _ _ _ _
      | exact ih1 _ _ _ _ _ _ _ _ _ _ _ _ _ _ _ _ _ _ _ _
      | exact manometerref18_Words.mono _ _ _
      | exact LeO.none _
      | refine LeO.ite ?_ ?_
      | refine LeO.bind ?_ (fun _ => ?_)
theorem manometerref18_Same.mono : ∀ a0 a1 a2 a3 a4 a5 a6 a7 a8 a9 a10 a11 a12 a13 a14 a15 a16 a17 k, LeO (manometerref18_Same.f k a0 a1 a2 a3 a4 a5 a6 a7 a8 a9 a10 a11 a12 a13 a14 a15 a16 a17) (manometerref18_Same.f (k + 1) a0 a1 a2 a3 a4 a5 a6 a7 a8 a9 a10 a11 a12 a13 a14 a15 a16 a17) := by
  intro a0 a1 a2 a3 a4 a5 a6 a7 a8 a9 a10 a11 a12 a13 a14 a15 a16 a17 k
  obtain ⟨ih0, ih1⟩ := manometerref18_Same.mono_l k
  unfold manometerref18_Same.f
  repeat' first
      | (with_reducible exact ih0 _ _ _ _ _ _ _ _ _ _ _ _ _ _ _ _ _ _ _)
      | (with_reducible exact ih1 _ _ _ _ _ _ _ _ _ _ _ _ _ _ _ _ _ _ _ _)
      | (with_reducible exact manometerref18_Words.mono _ _ _)
      | (with_reducible exact LeO.refl _)
      | (with_reducible exact LeO.none _)
      | (with_reducible refine LeO.ite ?_ ?_)
      | (with_reducible refine LeO.bind ?_ (fun _ => ?_))
      | exact ih0 _ _ _ _ _ _ _ _ _ _ _ _ _ _ _ _ _ _ _
      | exact ih1 _ _ _ _ _ _ _ _ _ _ _ _ _ _ _ _ _ _ _ _
      | exact manometerref18_Words.mono _ _ _
      | exact LeO.none _
      | refine LeO.ite ?_ ?_
      | refine LeO.bind ?_ (fun _ => ?_)
set_option maxHeartbeats 8000000 in
set_option maxRecDepth 100000 in
theorem manometerref18_Same.calls (k : Nat) (a0_0 : ByteArray) (A0_1 : Option Addr) (c0_1 : Nat) (l0_1 : List (S23)) (a0_2 : Int) (a0_3 : Int) (a0_4 : Int) (a0_5 : Int) (a0_6 : Int) (a0_7 : Int) (A0_8 : Option Addr) (c0_8 : Nat) (l0_8 : List ByteArray) (a1_0 : ByteArray) (A1_1 : Option Addr) (c1_1 : Nat) (l1_1 : List (S23)) (a1_2 : Int) (a1_3 : Int) (a1_4 : Int) (a1_5 : Int) (a1_6 : Int) (a1_7 : Int) (A1_8 : Option Addr) (c1_8 : Nat) (l1_8 : List ByteArray) (r : Bool) (w : World) (hr0_1 : Kd.C k23 w A0_1 l0_1.length l0_1) (hc0_1 : l0_1.length ≤ c0_1) (hr0_8 : Kd.C Kd.string w A0_8 l0_8.length l0_8) (hc0_8 : l0_8.length ≤ c0_8) (hr1_1 : Kd.C k23 w A1_1 l1_1.length l1_1) (hc1_1 : l1_1.length ≤ c1_1) (hr1_8 : Kd.C Kd.string w A1_8 l1_8.length l1_8) (hc1_8 : l1_8.length ≤ c1_8) (h : manometerref18_Same.f k a0_0 l0_1 a0_2 a0_3 a0_4 a0_5 a0_6 a0_7 l0_8 a1_0 l1_1 a1_2 a1_3 a1_4 a1_5 a1_6 a1_7 l1_8 = some r) :
    Calls Try.prog 17 #[.agg #[.string a0_0, .slice A0_1 l0_1.length c0_1, .int .i64 a0_2, .int .i64 a0_3, .int .i64 a0_4, .int .i64 a0_5, .int .i64 a0_6, .int .i64 a0_7, .slice A0_8 l0_8.length c0_8], .agg #[.string a1_0, .slice A1_1 l1_1.length c1_1, .int .i64 a1_2, .int .i64 a1_3, .int .i64 a1_4, .int .i64 a1_5, .int .i64 a1_6, .int .i64 a1_7, .slice A1_8 l1_8.length c1_8]] w fun e w' => e = .returned (.bool r) ∧ Below w.heap.size w w' := by
  have hu39 := Try.underlying39
  have hu25 := Try.underlying25
  have hu23 := Try.underlying23
  have HR0_1 := Aside0.mk hr0_1
  have HC0_1 := Aside0.mk hc0_1
  clear hr0_1 hc0_1
  have HR0_8 := Aside0.mk hr0_8
  have HC0_8 := Aside0.mk hc0_8
  clear hr0_8 hc0_8
  have HR1_1 := Aside0.mk hr1_1
  have HC1_1 := Aside0.mk hc1_1
  clear hr1_1 hc1_1
  have HR1_8 := Aside0.mk hr1_8
  have HC1_8 := Aside0.mk hc1_8
  clear hr1_8 hc1_8
  have HB := Aside0.mk (Below.refl w.heap.size w)
  have H : (if a0_0.toList = a1_0.toList then (if a0_2 = a1_2 then (if a0_3 = a1_3 then (if a0_4 = a1_4 then (if a0_5 = a1_5 then (if a0_6 = a1_6 then (if a0_7 = a1_7 then (manometerref18_Same.j0 k ((l0_1.length : Int) != (l1_1.length : Int)) a0_0 l0_1 a0_2 a0_3 a0_4 a0_5 a0_6 a0_7 l0_8 a1_0 l1_1 a1_2 a1_3 a1_4 a1_5 a1_6 a1_7 l1_8) else (manometerref18_Same.j0 k true a0_0 l0_1 a0_2 a0_3 a0_4 a0_5 a0_6 a0_7 l0_8 a1_0 l1_1 a1_2 a1_3 a1_4 a1_5 a1_6 a1_7 l1_8)) else (manometerref18_Same.j0 k true a0_0 l0_1 a0_2 a0_3 a0_4 a0_5 a0_6 a0_7 l0_8 a1_0 l1_1 a1_2 a1_3 a1_4 a1_5 a1_6 a1_7 l1_8)) else (manometerref18_Same.j0 k true a0_0 l0_1 a0_2 a0_3 a0_4 a0_5 a0_6 a0_7 l0_8 a1_0 l1_1 a1_2 a1_3 a1_4 a1_5 a1_6 a1_7 l1_8)) else (manometerref18_Same.j0 k true a0_0 l0_1 a0_2 a0_3 a0_4 a0_5 a0_6 a0_7 l0_8 a1_0 l1_1 a1_2 a1_3 a1_4 a1_5 a1_6 a1_7 l1_8)) else (manometerref18_Same.j0 k true a0_0 l0_1 a0_2 a0_3 a0_4 a0_5 a0_6 a0_7 l0_8 a1_0 l1_1 a1_2 a1_3 a1_4 a1_5 a1_6 a1_7 l1_8)) else (manometerref18_Same.j0 k true a0_0 l0_1 a0_2 a0_3 a0_4 a0_5 a0_6 a0_7 l0_8 a1_0 l1_1 a1_2 a1_3 a1_4 a1_5 a1_6 a1_7 l1_8)) else (manometerref18_Same.j0 k true a0_0 l0_1 a0_2 a0_3 a0_4 a0_5 a0_6 a0_7 l0_8 a1_0 l1_1 a1_2 a1_3 a1_4 a1_5 a1_6 a1_7 l1_8)) = some r := h
  clear h
  have HC3 := Aside0.mk H
  clear H
  go_enter Try.func17, Try.ntmps17
  go_upto_region 1 with (first | ((with_reducible refine gate_dst (N := 2) rfl ?_); (try (refine gate_guard (by rfl) ?_; dsimp only)); refine box_event ?hg (N := 2) ?hd (cs := #[.string a0_0, .slice A0_1 l0_1.length c0_1, .int .i64 a0_2, .int .i64 a0_3, .int .i64 a0_4, .int .i64 a0_5, .int .i64 a0_6, .int .i64 a0_7, .slice A0_8 l0_8.length c0_8]) (t := 39) ?hr ?_; (case hd => rfl); (case hg => rfl); (case hr => first | (go_simp; done) | (go_simp; rfl)); intro gb246 hg w4 hbox hb; have n0_ := Aside0.mk (below_step (by repeat (first | (with_reducible first | exact HB.out | apply below_alloc | apply pw_below_drewN | apply below_drew1) | exact HB.out)) hb); have n1_ := Aside0.mk (hbox); have n2_ := Aside0.mk ((by rw [hg]; exact (below_size (by repeat (first | (with_reducible first | exact HB.out | apply below_alloc | apply pw_below_drewN | apply below_drew1) | exact HB.out))) : w.heap.size ≤ gb246)); have n3_ := Aside0.mk ((by rw [hg]; exact (below_size (by repeat (first | (with_reducible first | exact HB.out | apply below_alloc | apply pw_below_drewN | apply below_drew1) | exact HB.out))) : w.heap.size ≤ gb246)); clear HB; have HB := n0_; have BK246 := n1_; have GW246 := n2_; have GE246 := n3_; clear n0_ n1_ n2_ n3_; clear hb hbox hg) | ((with_reducible refine gate_dst (N := 3) rfl ?_); (try (refine gate_guard (by rfl) ?_; dsimp only)); refine box_event ?hg (N := 3) ?hd (cs := #[.string a1_0, .slice A1_1 l1_1.length c1_1, .int .i64 a1_2, .int .i64 a1_3, .int .i64 a1_4, .int .i64 a1_5, .int .i64 a1_6, .int .i64 a1_7, .slice A1_8 l1_8.length c1_8]) (t := 39) ?hr ?_; (case hd => rfl); (case hg => rfl); (case hr => first | (go_simp; done) | (go_simp; rfl)); intro gb247 hg w5 hbox hb; have n0_ := Aside0.mk (blk_below (g := gb246) (o := .cells #[.string a0_0, .slice A0_1 l0_1.length c0_1, .int .i64 a0_2, .int .i64 a0_3, .int .i64 a0_4, .int .i64 a0_5, .int .i64 a0_6, .int .i64 a0_7, .slice A0_8 l0_8.length c0_8] 39 (0, 0)) (by (with_reducible repeat (first | refine blk_drewN ?_ _ | refine blk_drew ?_ | refine blk_alloc ?_ _)); exact BK246.out) hb); have n1_ := Aside0.mk (below_step (by repeat (first | (with_reducible first | exact HB.out | apply below_alloc | apply pw_below_drewN | apply below_drew1 | refine below_set ?_ GE246.out) | exact HB.out)) hb); have n2_ := Aside0.mk (hbox); have n3_ := Aside0.mk ((by rw [hg]; exact (below_size (by repeat (first | (with_reducible first | exact HB.out | apply below_alloc | apply pw_below_drewN | apply below_drew1 | refine below_set ?_ GE246.out) | exact HB.out))) : w.heap.size ≤ gb247)); have n4_ := Aside0.mk ((by rw [hg]; exact (below_size (by repeat (first | (with_reducible first | exact HB.out | apply below_alloc | apply pw_below_drewN | apply below_drew1 | refine below_set ?_ GE246.out) | exact HB.out))) : w.heap.size ≤ gb247)); have n5_ := Aside0.mk ((by rw [hg]; exact Nat.ne_of_lt (blk_lt (g := gb246) (o := .cells #[.string a0_0, .slice A0_1 l0_1.length c0_1, .int .i64 a0_2, .int .i64 a0_3, .int .i64 a0_4, .int .i64 a0_5, .int .i64 a0_6, .int .i64 a0_7, .slice A0_8 l0_8.length c0_8] 39 (0, 0)) (by (with_reducible repeat (first | refine blk_drewN ?_ _ | refine blk_drew ?_ | refine blk_alloc ?_ _)); exact BK246.out)) : gb246 ≠ gb247)); have n6_ := Aside0.mk ((by rw [hg]; exact Nat.ne_of_gt (blk_lt (g := gb246) (o := .cells #[.string a0_0, .slice A0_1 l0_1.length c0_1, .int .i64 a0_2, .int .i64 a0_3, .int .i64 a0_4, .int .i64 a0_5, .int .i64 a0_6, .int .i64 a0_7, .slice A0_8 l0_8.length c0_8] 39 (0, 0)) (by (with_reducible repeat (first | refine blk_drewN ?_ _ | refine blk_drew ?_ | refine blk_alloc ?_ _)); exact BK246.out)) : gb247 ≠ gb246)); clear BK246; clear HB; have BK246 := n0_; have HB := n1_; have BK247 := n2_; have GW247 := n3_; have GE247 := n4_; have NB246_247 := n5_; have NB247_246 := n6_; clear n0_ n1_ n2_ n3_ n4_ n5_ n6_; clear hb hbox hg))
  repeat (go_quiet (fail); go_upto_region 1 with (first | ((with_reducible refine gate_dst (N := 2) rfl ?_); (try (refine gate_guard (by rfl) ?_; dsimp only)); refine box_event ?hg (N := 2) ?hd (cs := #[.string a0_0, .slice A0_1 l0_1.length c0_1, .int .i64 a0_2, .int .i64 a0_3, .int .i64 a0_4, .int .i64 a0_5, .int .i64 a0_6, .int .i64 a0_7, .slice A0_8 l0_8.length c0_8]) (t := 39) ?hr ?_; (case hd => rfl); (case hg => rfl); (case hr => first | (go_simp; done) | (go_simp; rfl)); intro gb246 hg w4 hbox hb; have n0_ := Aside0.mk (below_step (by repeat (first | (with_reducible first | exact HB.out | apply below_alloc | apply pw_below_drewN | apply below_drew1) | exact HB.out)) hb); have n1_ := Aside0.mk (hbox); have n2_ := Aside0.mk ((by rw [hg]; exact (below_size (by repeat (first | (with_reducible first | exact HB.out | apply below_alloc | apply pw_below_drewN | apply below_drew1) | exact HB.out))) : w.heap.size ≤ gb246)); have n3_ := Aside0.mk ((by rw [hg]; exact (below_size (by repeat (first | (with_reducible first | exact HB.out | apply below_alloc | apply pw_below_drewN | apply below_drew1) | exact HB.out))) : w.heap.size ≤ gb246)); clear HB; have HB := n0_; have BK246 := n1_; have GW246 := n2_; have GE246 := n3_; clear n0_ n1_ n2_ n3_; clear hb hbox hg) | ((with_reducible refine gate_dst (N := 3) rfl ?_); (try (refine gate_guard (by rfl) ?_; dsimp only)); refine box_event ?hg (N := 3) ?hd (cs := #[.string a1_0, .slice A1_1 l1_1.length c1_1, .int .i64 a1_2, .int .i64 a1_3, .int .i64 a1_4, .int .i64 a1_5, .int .i64 a1_6, .int .i64 a1_7, .slice A1_8 l1_8.length c1_8]) (t := 39) ?hr ?_; (case hd => rfl); (case hg => rfl); (case hr => first | (go_simp; done) | (go_simp; rfl)); intro gb247 hg w5 hbox hb; have n0_ := Aside0.mk (blk_below (g := gb246) (o := .cells #[.string a0_0, .slice A0_1 l0_1.length c0_1, .int .i64 a0_2, .int .i64 a0_3, .int .i64 a0_4, .int .i64 a0_5, .int .i64 a0_6, .int .i64 a0_7, .slice A0_8 l0_8.length c0_8] 39 (0, 0)) (by (with_reducible repeat (first | refine blk_drewN ?_ _ | refine blk_drew ?_ | refine blk_alloc ?_ _)); exact BK246.out) hb); have n1_ := Aside0.mk (below_step (by repeat (first | (with_reducible first | exact HB.out | apply below_alloc | apply pw_below_drewN | apply below_drew1 | refine below_set ?_ GE246.out) | exact HB.out)) hb); have n2_ := Aside0.mk (hbox); have n3_ := Aside0.mk ((by rw [hg]; exact (below_size (by repeat (first | (with_reducible first | exact HB.out | apply below_alloc | apply pw_below_drewN | apply below_drew1 | refine below_set ?_ GE246.out) | exact HB.out))) : w.heap.size ≤ gb247)); have n4_ := Aside0.mk ((by rw [hg]; exact (below_size (by repeat (first | (with_reducible first | exact HB.out | apply below_alloc | apply pw_below_drewN | apply below_drew1 | refine below_set ?_ GE246.out) | exact HB.out))) : w.heap.size ≤ gb247)); have n5_ := Aside0.mk ((by rw [hg]; exact Nat.ne_of_lt (blk_lt (g := gb246) (o := .cells #[.string a0_0, .slice A0_1 l0_1.length c0_1, .int .i64 a0_2, .int .i64 a0_3, .int .i64 a0_4, .int .i64 a0_5, .int .i64 a0_6, .int .i64 a0_7, .slice A0_8 l0_8.length c0_8] 39 (0, 0)) (by (with_reducible repeat (first | refine blk_drewN ?_ _ | refine blk_drew ?_ | refine blk_alloc ?_ _)); exact BK246.out)) : gb246 ≠ gb247)); have n6_ := Aside0.mk ((by rw [hg]; exact Nat.ne_of_gt (blk_lt (g := gb246) (o := .cells #[.string a0_0, .slice A0_1 l0_1.length c0_1, .int .i64 a0_2, .int .i64 a0_3, .int .i64 a0_4, .int .i64 a0_5, .int .i64 a0_6, .int .i64 a0_7, .slice A0_8 l0_8.length c0_8] 39 (0, 0)) (by (with_reducible repeat (first | refine blk_drewN ?_ _ | refine blk_drew ?_ | refine blk_alloc ?_ _)); exact BK246.out)) : gb247 ≠ gb246)); clear BK246; clear HB; have BK246 := n0_; have HB := n1_; have BK247 := n2_; have GW247 := n3_; have GE247 := n4_; have NB246_247 := n5_; have NB247_246 := n6_; clear n0_ n1_ n2_ n3_ n4_ n5_ n6_; clear hb hbox hg)))
  (try simp only [Act.put, List.setIfInBounds_toArray, List.set_cons_zero, List.set_cons_succ])
  go_cut [40] (fun v40 wc => ∃ (kq : Nat) (x40_2 : Bool), v40 = .bool x40_2 ∧ Aside0 (manometerref18_Same.j0 kq x40_2 a0_0 l0_1 a0_2 a0_3 a0_4 a0_5 a0_6 a0_7 l0_8 a1_0 l1_1 a1_2 a1_3 a1_4 a1_5 a1_6 a1_7 l1_8 = some r) ∧ Aside0 (kq ≤ k) ∧ Aside0 (wc.heap[gb246]? = some (.cells #[.string a0_0, (.slice A0_1 l0_1.length c0_1), .int .i64 a0_2, .int .i64 a0_3, .int .i64 a0_4, .int .i64 a0_5, .int .i64 a0_6, .int .i64 a0_7, (.slice A0_8 l0_8.length c0_8)] 39 (0, 0))) ∧ Aside0 (wc.heap[gb247]? = some (.cells #[.string a1_0, (.slice A1_1 l1_1.length c1_1), .int .i64 a1_2, .int .i64 a1_3, .int .i64 a1_4, .int .i64 a1_5, .int .i64 a1_6, .int .i64 a1_7, (.slice A1_8 l1_8.length c1_8)] 39 (0, 0))) ∧ Aside0 (Below w.heap.size w wc))
  case first =>
    have H := HC3.out
    clear HC3
    by_cases c6 : a0_0.toList = a1_0.toList
    · rw [if_pos c6] at H
      have c6b0 : (a0_0.toList == a1_0.toList) = true := beq_iff_eq.mpr c6
      have c6b1 : (a0_0.toList != a1_0.toList) = false := bne_eq_false_iff_eq.mpr c6
      clear c6
      (first | rw [c6b0] | (simp only [i64_w, i32_w, xu32_w, xu8_w]; rw [c6b0]) | skip)
      by_cases c7 : a0_2 = a1_2
      · rw [if_pos c7] at H
        have c7b0 : (a0_2 == a1_2) = true := beq_iff_eq.mpr c7
        have c7b1 : (a0_2 != a1_2) = false := bne_eq_false_iff_eq.mpr c7
        clear c7
        by_cases c8 : a0_3 = a1_3
        · rw [if_pos c8] at H
          have c8b0 : (a0_3 == a1_3) = true := beq_iff_eq.mpr c8
          have c8b1 : (a0_3 != a1_3) = false := bne_eq_false_iff_eq.mpr c8
          clear c8
          by_cases c9 : a0_4 = a1_4
          · rw [if_pos c9] at H
            have c9b0 : (a0_4 == a1_4) = true := beq_iff_eq.mpr c9
            have c9b1 : (a0_4 != a1_4) = false := bne_eq_false_iff_eq.mpr c9
            clear c9
            by_cases c10 : a0_5 = a1_5
            · rw [if_pos c10] at H
              have c10b0 : (a0_5 == a1_5) = true := beq_iff_eq.mpr c10
              have c10b1 : (a0_5 != a1_5) = false := bne_eq_false_iff_eq.mpr c10
              clear c10
              by_cases c11 : a0_6 = a1_6
              · rw [if_pos c11] at H
                have c11b0 : (a0_6 == a1_6) = true := beq_iff_eq.mpr c11
                have c11b1 : (a0_6 != a1_6) = false := bne_eq_false_iff_eq.mpr c11
                clear c11
                by_cases c12 : a0_7 = a1_7
                · rw [if_pos c12] at H
                  have c12b0 : (a0_7 == a1_7) = true := beq_iff_eq.mpr c12
                  have c12b1 : (a0_7 != a1_7) = false := bne_eq_false_iff_eq.mpr c12
                  clear c12
                  have H' := Aside0.mk H
                  clear H
                  have hnb13 := NB246_247.out
                  have hnc13 := NB247_246.out
                  have hcz14_0 : w5.cell? ⟨gb246, 0, none⟩ = some (.string a0_0) := (blk_cell BK246.out 0).trans rfl
                  have hcz14_1 : w5.cell? ⟨gb246, 1, none⟩ = some (.slice A0_1 l0_1.length c0_1) := (blk_cell BK246.out 1).trans rfl
                  have hcz14_2 : w5.cell? ⟨gb246, 2, none⟩ = some (.int .i64 a0_2) := (blk_cell BK246.out 2).trans rfl
                  have hcz14_3 : w5.cell? ⟨gb246, 3, none⟩ = some (.int .i64 a0_3) := (blk_cell BK246.out 3).trans rfl
                  have hcz14_4 : w5.cell? ⟨gb246, 4, none⟩ = some (.int .i64 a0_4) := (blk_cell BK246.out 4).trans rfl
                  have hcz14_5 : w5.cell? ⟨gb246, 5, none⟩ = some (.int .i64 a0_5) := (blk_cell BK246.out 5).trans rfl
                  have hcz14_6 : w5.cell? ⟨gb246, 6, none⟩ = some (.int .i64 a0_6) := (blk_cell BK246.out 6).trans rfl
                  have hcz14_7 : w5.cell? ⟨gb246, 7, none⟩ = some (.int .i64 a0_7) := (blk_cell BK246.out 7).trans rfl
                  have hcz14_8 : w5.cell? ⟨gb246, 8, none⟩ = some (.slice A0_8 l0_8.length c0_8) := (blk_cell BK246.out 8).trans rfl
                  have hfz14_0 := blk_frozen BK246.out 0
                  have hfz14_1 := blk_frozen BK246.out 1
                  have hfz14_2 := blk_frozen BK246.out 2
                  have hfz14_3 := blk_frozen BK246.out 3
                  have hfz14_4 := blk_frozen BK246.out 4
                  have hfz14_5 := blk_frozen BK246.out 5
                  have hfz14_6 := blk_frozen BK246.out 6
                  have hfz14_7 := blk_frozen BK246.out 7
                  have hfz14_8 := blk_frozen BK246.out 8
                  have hcz15_0 : w5.cell? ⟨gb247, 0, none⟩ = some (.string a1_0) := (blk_cell BK247.out 0).trans rfl
                  have hcz15_1 : w5.cell? ⟨gb247, 1, none⟩ = some (.slice A1_1 l1_1.length c1_1) := (blk_cell BK247.out 1).trans rfl
                  have hcz15_2 : w5.cell? ⟨gb247, 2, none⟩ = some (.int .i64 a1_2) := (blk_cell BK247.out 2).trans rfl
                  have hcz15_3 : w5.cell? ⟨gb247, 3, none⟩ = some (.int .i64 a1_3) := (blk_cell BK247.out 3).trans rfl
                  have hcz15_4 : w5.cell? ⟨gb247, 4, none⟩ = some (.int .i64 a1_4) := (blk_cell BK247.out 4).trans rfl
                  have hcz15_5 : w5.cell? ⟨gb247, 5, none⟩ = some (.int .i64 a1_5) := (blk_cell BK247.out 5).trans rfl
                  have hcz15_6 : w5.cell? ⟨gb247, 6, none⟩ = some (.int .i64 a1_6) := (blk_cell BK247.out 6).trans rfl
                  have hcz15_7 : w5.cell? ⟨gb247, 7, none⟩ = some (.int .i64 a1_7) := (blk_cell BK247.out 7).trans rfl
                  have hcz15_8 : w5.cell? ⟨gb247, 8, none⟩ = some (.slice A1_8 l1_8.length c1_8) := (blk_cell BK247.out 8).trans rfl
                  have hfz15_0 := blk_frozen BK247.out 0
                  have hfz15_1 := blk_frozen BK247.out 1
                  have hfz15_2 := blk_frozen BK247.out 2
                  have hfz15_3 := blk_frozen BK247.out 3
                  have hfz15_4 := blk_frozen BK247.out 4
                  have hfz15_5 := blk_frozen BK247.out 5
                  have hfz15_6 := blk_frozen BK247.out 6
                  have hfz15_7 := blk_frozen BK247.out 7
                  have hfz15_8 := blk_frozen BK247.out 8
                  go_wp2
                  repeat (go_quiet (fail); try go_wp2)
                  go_meet
                  case rel => exact ⟨_, (((l0_1.length : Int) != (l1_1.length : Int))), (by first | rfl | (simp; done) | (simp [*]; done)), H', ⟨by first | omega | exact Nat.le_refl _⟩, ⟨by (with_reducible repeat (first | refine blk_drewN ?_ _ | refine blk_drew ?_ | refine blk_alloc ?_ _)); exact BK246.out⟩, ⟨by (with_reducible repeat (first | refine blk_drewN ?_ _ | refine blk_drew ?_ | refine blk_alloc ?_ _)); exact BK247.out⟩, ⟨by repeat (first | (with_reducible first | exact HB.out | apply below_alloc | apply pw_below_drewN | apply below_drew1 | refine below_set ?_ GE246.out | refine below_set ?_ GE247.out) | exact HB.out)⟩⟩
                · rw [if_neg c12] at H
                  have c12b0 : (a0_7 == a1_7) = false := beq_eq_false_iff_ne.mpr c12
                  have c12b1 : (a0_7 != a1_7) = true := bne_iff_ne.mpr c12
                  have H' := Aside0.mk H
                  clear H
                  have hnb16 := NB246_247.out
                  have hnc16 := NB247_246.out
                  have hcz17_0 : w5.cell? ⟨gb246, 0, none⟩ = some (.string a0_0) := (blk_cell BK246.out 0).trans rfl
                  have hcz17_1 : w5.cell? ⟨gb246, 1, none⟩ = some (.slice A0_1 l0_1.length c0_1) := (blk_cell BK246.out 1).trans rfl
                  have hcz17_2 : w5.cell? ⟨gb246, 2, none⟩ = some (.int .i64 a0_2) := (blk_cell BK246.out 2).trans rfl
                  have hcz17_3 : w5.cell? ⟨gb246, 3, none⟩ = some (.int .i64 a0_3) := (blk_cell BK246.out 3).trans rfl
                  have hcz17_4 : w5.cell? ⟨gb246, 4, none⟩ = some (.int .i64 a0_4) := (blk_cell BK246.out 4).trans rfl
                  have hcz17_5 : w5.cell? ⟨gb246, 5, none⟩ = some (.int .i64 a0_5) := (blk_cell BK246.out 5).trans rfl
                  have hcz17_6 : w5.cell? ⟨gb246, 6, none⟩ = some (.int .i64 a0_6) := (blk_cell BK246.out 6).trans rfl
                  have hcz17_7 : w5.cell? ⟨gb246, 7, none⟩ = some (.int .i64 a0_7) := (blk_cell BK246.out 7).trans rfl
                  have hcz17_8 : w5.cell? ⟨gb246, 8, none⟩ = some (.slice A0_8 l0_8.length c0_8) := (blk_cell BK246.out 8).trans rfl
                  have hfz17_0 := blk_frozen BK246.out 0
                  have hfz17_1 := blk_frozen BK246.out 1
                  have hfz17_2 := blk_frozen BK246.out 2
                  have hfz17_3 := blk_frozen BK246.out 3
                  have hfz17_4 := blk_frozen BK246.out 4
                  have hfz17_5 := blk_frozen BK246.out 5
                  have hfz17_6 := blk_frozen BK246.out 6
                  have hfz17_7 := blk_frozen BK246.out 7
                  have hfz17_8 := blk_frozen BK246.out 8
                  have hcz18_0 : w5.cell? ⟨gb247, 0, none⟩ = some (.string a1_0) := (blk_cell BK247.out 0).trans rfl
                  have hcz18_1 : w5.cell? ⟨gb247, 1, none⟩ = some (.slice A1_1 l1_1.length c1_1) := (blk_cell BK247.out 1).trans rfl
                  have hcz18_2 : w5.cell? ⟨gb247, 2, none⟩ = some (.int .i64 a1_2) := (blk_cell BK247.out 2).trans rfl
                  have hcz18_3 : w5.cell? ⟨gb247, 3, none⟩ = some (.int .i64 a1_3) := (blk_cell BK247.out 3).trans rfl
                  have hcz18_4 : w5.cell? ⟨gb247, 4, none⟩ = some (.int .i64 a1_4) := (blk_cell BK247.out 4).trans rfl
                  have hcz18_5 : w5.cell? ⟨gb247, 5, none⟩ = some (.int .i64 a1_5) := (blk_cell BK247.out 5).trans rfl
                  have hcz18_6 : w5.cell? ⟨gb247, 6, none⟩ = some (.int .i64 a1_6) := (blk_cell BK247.out 6).trans rfl
                  have hcz18_7 : w5.cell? ⟨gb247, 7, none⟩ = some (.int .i64 a1_7) := (blk_cell BK247.out 7).trans rfl
                  have hcz18_8 : w5.cell? ⟨gb247, 8, none⟩ = some (.slice A1_8 l1_8.length c1_8) := (blk_cell BK247.out 8).trans rfl
                  have hfz18_0 := blk_frozen BK247.out 0
                  have hfz18_1 := blk_frozen BK247.out 1
                  have hfz18_2 := blk_frozen BK247.out 2
                  have hfz18_3 := blk_frozen BK247.out 3
                  have hfz18_4 := blk_frozen BK247.out 4
                  have hfz18_5 := blk_frozen BK247.out 5
                  have hfz18_6 := blk_frozen BK247.out 6
                  have hfz18_7 := blk_frozen BK247.out 7
                  have hfz18_8 := blk_frozen BK247.out 8
                  go_wp2
                  repeat (go_quiet (fail); try go_wp2)
                  go_meet
                  case rel => exact ⟨_, (true), (by first | rfl | (simp; done) | (simp [*]; done)), H', ⟨by first | omega | exact Nat.le_refl _⟩, ⟨by (with_reducible repeat (first | refine blk_drewN ?_ _ | refine blk_drew ?_ | refine blk_alloc ?_ _)); exact BK246.out⟩, ⟨by (with_reducible repeat (first | refine blk_drewN ?_ _ | refine blk_drew ?_ | refine blk_alloc ?_ _)); exact BK247.out⟩, ⟨by repeat (first | (with_reducible first | exact HB.out | apply below_alloc | apply pw_below_drewN | apply below_drew1 | refine below_set ?_ GE246.out | refine below_set ?_ GE247.out) | exact HB.out)⟩⟩
              · rw [if_neg c11] at H
                have c11b0 : (a0_6 == a1_6) = false := beq_eq_false_iff_ne.mpr c11
                have c11b1 : (a0_6 != a1_6) = true := bne_iff_ne.mpr c11
                have H' := Aside0.mk H
                clear H
                have hnb19 := NB246_247.out
                have hnc19 := NB247_246.out
                have hcz20_0 : w5.cell? ⟨gb246, 0, none⟩ = some (.string a0_0) := (blk_cell BK246.out 0).trans rfl
                have hcz20_1 : w5.cell? ⟨gb246, 1, none⟩ = some (.slice A0_1 l0_1.length c0_1) := (blk_cell BK246.out 1).trans rfl
                have hcz20_2 : w5.cell? ⟨gb246, 2, none⟩ = some (.int .i64 a0_2) := (blk_cell BK246.out 2).trans rfl
                have hcz20_3 : w5.cell? ⟨gb246, 3, none⟩ = some (.int .i64 a0_3) := (blk_cell BK246.out 3).trans rfl
                have hcz20_4 : w5.cell? ⟨gb246, 4, none⟩ = some (.int .i64 a0_4) := (blk_cell BK246.out 4).trans rfl
                have hcz20_5 : w5.cell? ⟨gb246, 5, none⟩ = some (.int .i64 a0_5) := (blk_cell BK246.out 5).trans rfl
                have hcz20_6 : w5.cell? ⟨gb246, 6, none⟩ = some (.int .i64 a0_6) := (blk_cell BK246.out 6).trans rfl
                have hcz20_7 : w5.cell? ⟨gb246, 7, none⟩ = some (.int .i64 a0_7) := (blk_cell BK246.out 7).trans rfl
                have hcz20_8 : w5.cell? ⟨gb246, 8, none⟩ = some (.slice A0_8 l0_8.length c0_8) := (blk_cell BK246.out 8).trans rfl
                have hfz20_0 := blk_frozen BK246.out 0
                have hfz20_1 := blk_frozen BK246.out 1
                have hfz20_2 := blk_frozen BK246.out 2
                have hfz20_3 := blk_frozen BK246.out 3
                have hfz20_4 := blk_frozen BK246.out 4
                have hfz20_5 := blk_frozen BK246.out 5
                have hfz20_6 := blk_frozen BK246.out 6
                have hfz20_7 := blk_frozen BK246.out 7
                have hfz20_8 := blk_frozen BK246.out 8
                have hcz21_0 : w5.cell? ⟨gb247, 0, none⟩ = some (.string a1_0) := (blk_cell BK247.out 0).trans rfl
                have hcz21_1 : w5.cell? ⟨gb247, 1, none⟩ = some (.slice A1_1 l1_1.length c1_1) := (blk_cell BK247.out 1).trans rfl
                have hcz21_2 : w5.cell? ⟨gb247, 2, none⟩ = some (.int .i64 a1_2) := (blk_cell BK247.out 2).trans rfl
                have hcz21_3 : w5.cell? ⟨gb247, 3, none⟩ = some (.int .i64 a1_3) := (blk_cell BK247.out 3).trans rfl
                have hcz21_4 : w5.cell? ⟨gb247, 4, none⟩ = some (.int .i64 a1_4) := (blk_cell BK247.out 4).trans rfl
                have hcz21_5 : w5.cell? ⟨gb247, 5, none⟩ = some (.int .i64 a1_5) := (blk_cell BK247.out 5).trans rfl
                have hcz21_6 : w5.cell? ⟨gb247, 6, none⟩ = some (.int .i64 a1_6) := (blk_cell BK247.out 6).trans rfl
                have hcz21_7 : w5.cell? ⟨gb247, 7, none⟩ = some (.int .i64 a1_7) := (blk_cell BK247.out 7).trans rfl
                have hcz21_8 : w5.cell? ⟨gb247, 8, none⟩ = some (.slice A1_8 l1_8.length c1_8) := (blk_cell BK247.out 8).trans rfl
                have hfz21_0 := blk_frozen BK247.out 0
                have hfz21_1 := blk_frozen BK247.out 1
                have hfz21_2 := blk_frozen BK247.out 2
                have hfz21_3 := blk_frozen BK247.out 3
                have hfz21_4 := blk_frozen BK247.out 4
                have hfz21_5 := blk_frozen BK247.out 5
                have hfz21_6 := blk_frozen BK247.out 6
                have hfz21_7 := blk_frozen BK247.out 7
                have hfz21_8 := blk_frozen BK247.out 8
                go_wp2
                repeat (go_quiet (fail); try go_wp2)
                go_meet
                case rel => exact ⟨_, (true), (by first | rfl | (simp; done) | (simp [*]; done)), H', ⟨by first | omega | exact Nat.le_refl _⟩, ⟨by (with_reducible repeat (first | refine blk_drewN ?_ _ | refine blk_drew ?_ | refine blk_alloc ?_ _)); exact BK246.out⟩, ⟨by (with_reducible repeat (first | refine blk_drewN ?_ _ | refine blk_drew ?_ | refine blk_alloc ?_ _)); exact BK247.out⟩, ⟨by repeat (first | (with_reducible first | exact HB.out | apply below_alloc | apply pw_below_drewN | apply below_drew1 | refine below_set ?_ GE246.out | refine below_set ?_ GE247.out) | exact HB.out)⟩⟩
            · rw [if_neg c10] at H
              have c10b0 : (a0_5 == a1_5) = false := beq_eq_false_iff_ne.mpr c10
              have c10b1 : (a0_5 != a1_5) = true := bne_iff_ne.mpr c10
              have H' := Aside0.mk H
              clear H
              have hnb22 := NB246_247.out
              have hnc22 := NB247_246.out
              have hcz23_0 : w5.cell? ⟨gb246, 0, none⟩ = some (.string a0_0) := (blk_cell BK246.out 0).trans rfl
              have hcz23_1 : w5.cell? ⟨gb246, 1, none⟩ = some (.slice A0_1 l0_1.length c0_1) := (blk_cell BK246.out 1).trans rfl
              have hcz23_2 : w5.cell? ⟨gb246, 2, none⟩ = some (.int .i64 a0_2) := (blk_cell BK246.out 2).trans rfl
              have hcz23_3 : w5.cell? ⟨gb246, 3, none⟩ = some (.int .i64 a0_3) := (blk_cell BK246.out 3).trans rfl
              have hcz23_4 : w5.cell? ⟨gb246, 4, none⟩ = some (.int .i64 a0_4) := (blk_cell BK246.out 4).trans rfl
              have hcz23_5 : w5.cell? ⟨gb246, 5, none⟩ = some (.int .i64 a0_5) := (blk_cell BK246.out 5).trans rfl
              have hcz23_6 : w5.cell? ⟨gb246, 6, none⟩ = some (.int .i64 a0_6) := (blk_cell BK246.out 6).trans rfl
              have hcz23_7 : w5.cell? ⟨gb246, 7, none⟩ = some (.int .i64 a0_7) := (blk_cell BK246.out 7).trans rfl
              have hcz23_8 : w5.cell? ⟨gb246, 8, none⟩ = some (.slice A0_8 l0_8.length c0_8) := (blk_cell BK246.out 8).trans rfl
              have hfz23_0 := blk_frozen BK246.out 0
              have hfz23_1 := blk_frozen BK246.out 1
              have hfz23_2 := blk_frozen BK246.out 2
              have hfz23_3 := blk_frozen BK246.out 3
              have hfz23_4 := blk_frozen BK246.out 4
              have hfz23_5 := blk_frozen BK246.out 5
              have hfz23_6 := blk_frozen BK246.out 6
              have hfz23_7 := blk_frozen BK246.out 7
              have hfz23_8 := blk_frozen BK246.out 8
              have hcz24_0 : w5.cell? ⟨gb247, 0, none⟩ = some (.string a1_0) := (blk_cell BK247.out 0).trans rfl
              have hcz24_1 : w5.cell? ⟨gb247, 1, none⟩ = some (.slice A1_1 l1_1.length c1_1) := (blk_cell BK247.out 1).trans rfl
              have hcz24_2 : w5.cell? ⟨gb247, 2, none⟩ = some (.int .i64 a1_2) := (blk_cell BK247.out 2).trans rfl
              have hcz24_3 : w5.cell? ⟨gb247, 3, none⟩ = some (.int .i64 a1_3) := (blk_cell BK247.out 3).trans rfl
              have hcz24_4 : w5.cell? ⟨gb247, 4, none⟩ = some (.int .i64 a1_4) := (blk_cell BK247.out 4).trans rfl
              have hcz24_5 : w5.cell? ⟨gb247, 5, none⟩ = some (.int .i64 a1_5) := (blk_cell BK247.out 5).trans rfl
              have hcz24_6 : w5.cell? ⟨gb247, 6, none⟩ = some (.int .i64 a1_6) := (blk_cell BK247.out 6).trans rfl
              have hcz24_7 : w5.cell? ⟨gb247, 7, none⟩ = some (.int .i64 a1_7) := (blk_cell BK247.out 7).trans rfl
              have hcz24_8 : w5.cell? ⟨gb247, 8, none⟩ = some (.slice A1_8 l1_8.length c1_8) := (blk_cell BK247.out 8).trans rfl
              have hfz24_0 := blk_frozen BK247.out 0
              have hfz24_1 := blk_frozen BK247.out 1
              have hfz24_2 := blk_frozen BK247.out 2
              have hfz24_3 := blk_frozen BK247.out 3
              have hfz24_4 := blk_frozen BK247.out 4
              have hfz24_5 := blk_frozen BK247.out 5
              have hfz24_6 := blk_frozen BK247.out 6
              have hfz24_7 := blk_frozen BK247.out 7
              have hfz24_8 := blk_frozen BK247.out 8
              go_wp2
              repeat (go_quiet (fail); try go_wp2)
              go_meet
              case rel => exact ⟨_, (true), (by first | rfl | (simp; done) | (simp [*]; done)), H', ⟨by first | omega | exact Nat.le_refl _⟩, ⟨by (with_reducible repeat (first | refine blk_drewN ?_ _ | refine blk_drew ?_ | refine blk_alloc ?_ _)); exact BK246.out⟩, ⟨by (with_reducible repeat (first | refine blk_drewN ?_ _ | refine blk_drew ?_ | refine blk_alloc ?_ _)); exact BK247.out⟩, ⟨by repeat (first | (with_reducible first | exact HB.out | apply below_alloc | apply pw_below_drewN | apply below_drew1 | refine below_set ?_ GE246.out | refine below_set ?_ GE247.out) | exact HB.out)⟩⟩
          · rw [if_neg c9] at H
            have c9b0 : (a0_4 == a1_4) = false := beq_eq_false_iff_ne.mpr c9
            have c9b1 : (a0_4 != a1_4) = true := bne_iff_ne.mpr c9
            have H' := Aside0.mk H
            clear H
            have hnb25 := NB246_247.out
            have hnc25 := NB247_246.out
            have hcz26_0 : w5.cell? ⟨gb246, 0, none⟩ = some (.string a0_0) := (blk_cell BK246.out 0).trans rfl
            have hcz26_1 : w5.cell? ⟨gb246, 1, none⟩ = some (.slice A0_1 l0_1.length c0_1) := (blk_cell BK246.out 1).trans rfl
            have hcz26_2 : w5.cell? ⟨gb246, 2, none⟩ = some (.int .i64 a0_2) := (blk_cell BK246.out 2).trans rfl
            have hcz26_3 : w5.cell? ⟨gb246, 3, none⟩ = some (.int .i64 a0_3) := (blk_cell BK246.out 3).trans rfl
            have hcz26_4 : w5.cell? ⟨gb246, 4, none⟩ = some (.int .i64 a0_4) := (blk_cell BK246.out 4).trans rfl
            have hcz26_5 : w5.cell? ⟨gb246, 5, none⟩ = some (.int .i64 a0_5) := (blk_cell BK246.out 5).trans rfl
            have hcz26_6 : w5.cell? ⟨gb246, 6, none⟩ = some (.int .i64 a0_6) := (blk_cell BK246.out 6).trans rfl
            have hcz26_7 : w5.cell? ⟨gb246, 7, none⟩ = some (.int .i64 a0_7) := (blk_cell BK246.out 7).trans rfl
            have hcz26_8 : w5.cell? ⟨gb246, 8, none⟩ = some (.slice A0_8 l0_8.length c0_8) := (blk_cell BK246.out 8).trans rfl
            have hfz26_0 := blk_frozen BK246.out 0
            have hfz26_1 := blk_frozen BK246.out 1
            have hfz26_2 := blk_frozen BK246.out 2
            have hfz26_3 := blk_frozen BK246.out 3
            have hfz26_4 := blk_frozen BK246.out 4
            have hfz26_5 := blk_frozen BK246.out 5
            have hfz26_6 := blk_frozen BK246.out 6
            have hfz26_7 := blk_frozen BK246.out 7
            have hfz26_8 := blk_frozen BK246.out 8
            have hcz27_0 : w5.cell? ⟨gb247, 0, none⟩ = some (.string a1_0) := (blk_cell BK247.out 0).trans rfl
            have hcz27_1 : w5.cell? ⟨gb247, 1, none⟩ = some (.slice A1_1 l1_1.length c1_1) := (blk_cell BK247.out 1).trans rfl
            have hcz27_2 : w5.cell? ⟨gb247, 2, none⟩ = some (.int .i64 a1_2) := (blk_cell BK247.out 2).trans rfl
            have hcz27_3 : w5.cell? ⟨gb247, 3, none⟩ = some (.int .i64 a1_3) := (blk_cell BK247.out 3).trans rfl
            have hcz27_4 : w5.cell? ⟨gb247, 4, none⟩ = some (.int .i64 a1_4) := (blk_cell BK247.out 4).trans rfl
            have hcz27_5 : w5.cell? ⟨gb247, 5, none⟩ = some (.int .i64 a1_5) := (blk_cell BK247.out 5).trans rfl
            have hcz27_6 : w5.cell? ⟨gb247, 6, none⟩ = some (.int .i64 a1_6) := (blk_cell BK247.out 6).trans rfl
            have hcz27_7 : w5.cell? ⟨gb247, 7, none⟩ = some (.int .i64 a1_7) := (blk_cell BK247.out 7).trans rfl
            have hcz27_8 : w5.cell? ⟨gb247, 8, none⟩ = some (.slice A1_8 l1_8.length c1_8) := (blk_cell BK247.out 8).trans rfl
            have hfz27_0 := blk_frozen BK247.out 0
            have hfz27_1 := blk_frozen BK247.out 1
            have hfz27_2 := blk_frozen BK247.out 2
            have hfz27_3 := blk_frozen BK247.out 3
            have hfz27_4 := blk_frozen BK247.out 4
            have hfz27_5 := blk_frozen BK247.out 5
            have hfz27_6 := blk_frozen BK247.out 6
            have hfz27_7 := blk_frozen BK247.out 7
            have hfz27_8 := blk_frozen BK247.out 8
            go_wp2
            repeat (go_quiet (fail); try go_wp2)
            go_meet
            case rel => exact ⟨_, (true), (by first | rfl | (simp; done) | (simp [*]; done)), H', ⟨by first | omega | exact Nat.le_refl _⟩, ⟨by (with_reducible repeat (first | refine blk_drewN ?_ _ | refine blk_drew ?_ | refine blk_alloc ?_ _)); exact BK246.out⟩, ⟨by (with_reducible repeat (first | refine blk_drewN ?_ _ | refine blk_drew ?_ | refine blk_alloc ?_ _)); exact BK247.out⟩, ⟨by repeat (first | (with_reducible first | exact HB.out | apply below_alloc | apply pw_below_drewN | apply below_drew1 | refine below_set ?_ GE246.out | refine below_set ?_ GE247.out) | exact HB.out)⟩⟩
        · rw [if_neg c8] at H
          have c8b0 : (a0_3 == a1_3) = false := beq_eq_false_iff_ne.mpr c8
          have c8b1 : (a0_3 != a1_3) = true := bne_iff_ne.mpr c8
          have H' := Aside0.mk H
          clear H
          have hnb28 := NB246_247.out
          have hnc28 := NB247_246.out
          have hcz29_0 : w5.cell? ⟨gb246, 0, none⟩ = some (.string a0_0) := (blk_cell BK246.out 0).trans rfl
          have hcz29_1 : w5.cell? ⟨gb246, 1, none⟩ = some (.slice A0_1 l0_1.length c0_1) := (blk_cell BK246.out 1).trans rfl
          have hcz29_2 : w5.cell? ⟨gb246, 2, none⟩ = some (.int .i64 a0_2) := (blk_cell BK246.out 2).trans rfl
          have hcz29_3 : w5.cell? ⟨gb246, 3, none⟩ = some (.int .i64 a0_3) := (blk_cell BK246.out 3).trans rfl
          have hcz29_4 : w5.cell? ⟨gb246, 4, none⟩ = some (.int .i64 a0_4) := (blk_cell BK246.out 4).trans rfl
          have hcz29_5 : w5.cell? ⟨gb246, 5, none⟩ = some (.int .i64 a0_5) := (blk_cell BK246.out 5).trans rfl
          have hcz29_6 : w5.cell? ⟨gb246, 6, none⟩ = some (.int .i64 a0_6) := (blk_cell BK246.out 6).trans rfl
          have hcz29_7 : w5.cell? ⟨gb246, 7, none⟩ = some (.int .i64 a0_7) := (blk_cell BK246.out 7).trans rfl
          have hcz29_8 : w5.cell? ⟨gb246, 8, none⟩ = some (.slice A0_8 l0_8.length c0_8) := (blk_cell BK246.out 8).trans rfl
          have hfz29_0 := blk_frozen BK246.out 0
          have hfz29_1 := blk_frozen BK246.out 1
          have hfz29_2 := blk_frozen BK246.out 2
          have hfz29_3 := blk_frozen BK246.out 3
          have hfz29_4 := blk_frozen BK246.out 4
          have hfz29_5 := blk_frozen BK246.out 5
          have hfz29_6 := blk_frozen BK246.out 6
          have hfz29_7 := blk_frozen BK246.out 7
          have hfz29_8 := blk_frozen BK246.out 8
          have hcz30_0 : w5.cell? ⟨gb247, 0, none⟩ = some (.string a1_0) := (blk_cell BK247.out 0).trans rfl
          have hcz30_1 : w5.cell? ⟨gb247, 1, none⟩ = some (.slice A1_1 l1_1.length c1_1) := (blk_cell BK247.out 1).trans rfl
          have hcz30_2 : w5.cell? ⟨gb247, 2, none⟩ = some (.int .i64 a1_2) := (blk_cell BK247.out 2).trans rfl
          have hcz30_3 : w5.cell? ⟨gb247, 3, none⟩ = some (.int .i64 a1_3) := (blk_cell BK247.out 3).trans rfl
          have hcz30_4 : w5.cell? ⟨gb247, 4, none⟩ = some (.int .i64 a1_4) := (blk_cell BK247.out 4).trans rfl
          have hcz30_5 : w5.cell? ⟨gb247, 5, none⟩ = some (.int .i64 a1_5) := (blk_cell BK247.out 5).trans rfl
          have hcz30_6 : w5.cell? ⟨gb247, 6, none⟩ = some (.int .i64 a1_6) := (blk_cell BK247.out 6).trans rfl
          have hcz30_7 : w5.cell? ⟨gb247, 7, none⟩ = some (.int .i64 a1_7) := (blk_cell BK247.out 7).trans rfl
          have hcz30_8 : w5.cell? ⟨gb247, 8, none⟩ = some (.slice A1_8 l1_8.length c1_8) := (blk_cell BK247.out 8).trans rfl
          have hfz30_0 := blk_frozen BK247.out 0
          have hfz30_1 := blk_frozen BK247.out 1
          have hfz30_2 := blk_frozen BK247.out 2
          have hfz30_3 := blk_frozen BK247.out 3
          have hfz30_4 := blk_frozen BK247.out 4
          have hfz30_5 := blk_frozen BK247.out 5
          have hfz30_6 := blk_frozen BK247.out 6
          have hfz30_7 := blk_frozen BK247.out 7
          have hfz30_8 := blk_frozen BK247.out 8
          go_wp2
          repeat (go_quiet (fail); try go_wp2)
          go_meet
          case rel => exact ⟨_, (true), (by first | rfl | (simp; done) | (simp [*]; done)), H', ⟨by first | omega | exact Nat.le_refl _⟩, ⟨by (with_reducible repeat (first | refine blk_drewN ?_ _ | refine blk_drew ?_ | refine blk_alloc ?_ _)); exact BK246.out⟩, ⟨by (with_reducible repeat (first | refine blk_drewN ?_ _ | refine blk_drew ?_ | refine blk_alloc ?_ _)); exact BK247.out⟩, ⟨by repeat (first | (with_reducible first | exact HB.out | apply below_alloc | apply pw_below_drewN | apply below_drew1 | refine below_set ?_ GE246.out | refine below_set ?_ GE247.out) | exact HB.out)⟩⟩
      · rw [if_neg c7] at H
        have c7b0 : (a0_2 == a1_2) = false := beq_eq_false_iff_ne.mpr c7
        have c7b1 : (a0_2 != a1_2) = true := bne_iff_ne.mpr c7
        have H' := Aside0.mk H
        clear H
        have hnb31 := NB246_247.out
        have hnc31 := NB247_246.out
        have hcz32_0 : w5.cell? ⟨gb246, 0, none⟩ = some (.string a0_0) := (blk_cell BK246.out 0).trans rfl
        have hcz32_1 : w5.cell? ⟨gb246, 1, none⟩ = some (.slice A0_1 l0_1.length c0_1) := (blk_cell BK246.out 1).trans rfl
        have hcz32_2 : w5.cell? ⟨gb246, 2, none⟩ = some (.int .i64 a0_2) := (blk_cell BK246.out 2).trans rfl
        have hcz32_3 : w5.cell? ⟨gb246, 3, none⟩ = some (.int .i64 a0_3) := (blk_cell BK246.out 3).trans rfl
        have hcz32_4 : w5.cell? ⟨gb246, 4, none⟩ = some (.int .i64 a0_4) := (blk_cell BK246.out 4).trans rfl
        have hcz32_5 : w5.cell? ⟨gb246, 5, none⟩ = some (.int .i64 a0_5) := (blk_cell BK246.out 5).trans rfl
        have hcz32_6 : w5.cell? ⟨gb246, 6, none⟩ = some (.int .i64 a0_6) := (blk_cell BK246.out 6).trans rfl
        have hcz32_7 : w5.cell? ⟨gb246, 7, none⟩ = some (.int .i64 a0_7) := (blk_cell BK246.out 7).trans rfl
        have hcz32_8 : w5.cell? ⟨gb246, 8, none⟩ = some (.slice A0_8 l0_8.length c0_8) := (blk_cell BK246.out 8).trans rfl
        have hfz32_0 := blk_frozen BK246.out 0
        have hfz32_1 := blk_frozen BK246.out 1
        have hfz32_2 := blk_frozen BK246.out 2
        have hfz32_3 := blk_frozen BK246.out 3
        have hfz32_4 := blk_frozen BK246.out 4
        have hfz32_5 := blk_frozen BK246.out 5
        have hfz32_6 := blk_frozen BK246.out 6
        have hfz32_7 := blk_frozen BK246.out 7
        have hfz32_8 := blk_frozen BK246.out 8
        have hcz33_0 : w5.cell? ⟨gb247, 0, none⟩ = some (.string a1_0) := (blk_cell BK247.out 0).trans rfl
        have hcz33_1 : w5.cell? ⟨gb247, 1, none⟩ = some (.slice A1_1 l1_1.length c1_1) := (blk_cell BK247.out 1).trans rfl
        have hcz33_2 : w5.cell? ⟨gb247, 2, none⟩ = some (.int .i64 a1_2) := (blk_cell BK247.out 2).trans rfl
        have hcz33_3 : w5.cell? ⟨gb247, 3, none⟩ = some (.int .i64 a1_3) := (blk_cell BK247.out 3).trans rfl
        have hcz33_4 : w5.cell? ⟨gb247, 4, none⟩ = some (.int .i64 a1_4) := (blk_cell BK247.out 4).trans rfl
        have hcz33_5 : w5.cell? ⟨gb247, 5, none⟩ = some (.int .i64 a1_5) := (blk_cell BK247.out 5).trans rfl
        have hcz33_6 : w5.cell? ⟨gb247, 6, none⟩ = some (.int .i64 a1_6) := (blk_cell BK247.out 6).trans rfl
        have hcz33_7 : w5.cell? ⟨gb247, 7, none⟩ = some (.int .i64 a1_7) := (blk_cell BK247.out 7).trans rfl
        have hcz33_8 : w5.cell? ⟨gb247, 8, none⟩ = some (.slice A1_8 l1_8.length c1_8) := (blk_cell BK247.out 8).trans rfl
        have hfz33_0 := blk_frozen BK247.out 0
        have hfz33_1 := blk_frozen BK247.out 1
        have hfz33_2 := blk_frozen BK247.out 2
        have hfz33_3 := blk_frozen BK247.out 3
        have hfz33_4 := blk_frozen BK247.out 4
        have hfz33_5 := blk_frozen BK247.out 5
        have hfz33_6 := blk_frozen BK247.out 6
        have hfz33_7 := blk_frozen BK247.out 7
        have hfz33_8 := blk_frozen BK247.out 8
        go_wp2
        repeat (go_quiet (fail); try go_wp2)
        go_meet
        case rel => exact ⟨_, (true), (by first | rfl | (simp; done) | (simp [*]; done)), H', ⟨by first | omega | exact Nat.le_refl _⟩, ⟨by (with_reducible repeat (first | refine blk_drewN ?_ _ | refine blk_drew ?_ | refine blk_alloc ?_ _)); exact BK246.out⟩, ⟨by (with_reducible repeat (first | refine blk_drewN ?_ _ | refine blk_drew ?_ | refine blk_alloc ?_ _)); exact BK247.out⟩, ⟨by repeat (first | (with_reducible first | exact HB.out | apply below_alloc | apply pw_below_drewN | apply below_drew1 | refine below_set ?_ GE246.out | refine below_set ?_ GE247.out) | exact HB.out)⟩⟩
    · rw [if_neg c6] at H
      have c6b0 : (a0_0.toList == a1_0.toList) = false := beq_eq_false_iff_ne.mpr c6
      have c6b1 : (a0_0.toList != a1_0.toList) = true := bne_iff_ne.mpr c6
      (first | rw [c6b0] | (simp only [i64_w, i32_w, xu32_w, xu8_w]; rw [c6b0]) | skip)
      have H' := Aside0.mk H
      clear H
      have hnb34 := NB246_247.out
      have hnc34 := NB247_246.out
      have hcz35_0 : w5.cell? ⟨gb246, 0, none⟩ = some (.string a0_0) := (blk_cell BK246.out 0).trans rfl
      have hcz35_1 : w5.cell? ⟨gb246, 1, none⟩ = some (.slice A0_1 l0_1.length c0_1) := (blk_cell BK246.out 1).trans rfl
      have hcz35_2 : w5.cell? ⟨gb246, 2, none⟩ = some (.int .i64 a0_2) := (blk_cell BK246.out 2).trans rfl
      have hcz35_3 : w5.cell? ⟨gb246, 3, none⟩ = some (.int .i64 a0_3) := (blk_cell BK246.out 3).trans rfl
      have hcz35_4 : w5.cell? ⟨gb246, 4, none⟩ = some (.int .i64 a0_4) := (blk_cell BK246.out 4).trans rfl
      have hcz35_5 : w5.cell? ⟨gb246, 5, none⟩ = some (.int .i64 a0_5) := (blk_cell BK246.out 5).trans rfl
      have hcz35_6 : w5.cell? ⟨gb246, 6, none⟩ = some (.int .i64 a0_6) := (blk_cell BK246.out 6).trans rfl
      have hcz35_7 : w5.cell? ⟨gb246, 7, none⟩ = some (.int .i64 a0_7) := (blk_cell BK246.out 7).trans rfl
      have hcz35_8 : w5.cell? ⟨gb246, 8, none⟩ = some (.slice A0_8 l0_8.length c0_8) := (blk_cell BK246.out 8).trans rfl
      have hfz35_0 := blk_frozen BK246.out 0
      have hfz35_1 := blk_frozen BK246.out 1
      have hfz35_2 := blk_frozen BK246.out 2
      have hfz35_3 := blk_frozen BK246.out 3
      have hfz35_4 := blk_frozen BK246.out 4
      have hfz35_5 := blk_frozen BK246.out 5
      have hfz35_6 := blk_frozen BK246.out 6
      have hfz35_7 := blk_frozen BK246.out 7
      have hfz35_8 := blk_frozen BK246.out 8
      have hcz36_0 : w5.cell? ⟨gb247, 0, none⟩ = some (.string a1_0) := (blk_cell BK247.out 0).trans rfl
      have hcz36_1 : w5.cell? ⟨gb247, 1, none⟩ = some (.slice A1_1 l1_1.length c1_1) := (blk_cell BK247.out 1).trans rfl
      have hcz36_2 : w5.cell? ⟨gb247, 2, none⟩ = some (.int .i64 a1_2) := (blk_cell BK247.out 2).trans rfl
      have hcz36_3 : w5.cell? ⟨gb247, 3, none⟩ = some (.int .i64 a1_3) := (blk_cell BK247.out 3).trans rfl
      have hcz36_4 : w5.cell? ⟨gb247, 4, none⟩ = some (.int .i64 a1_4) := (blk_cell BK247.out 4).trans rfl
      have hcz36_5 : w5.cell? ⟨gb247, 5, none⟩ = some (.int .i64 a1_5) := (blk_cell BK247.out 5).trans rfl
      have hcz36_6 : w5.cell? ⟨gb247, 6, none⟩ = some (.int .i64 a1_6) := (blk_cell BK247.out 6).trans rfl
      have hcz36_7 : w5.cell? ⟨gb247, 7, none⟩ = some (.int .i64 a1_7) := (blk_cell BK247.out 7).trans rfl
      have hcz36_8 : w5.cell? ⟨gb247, 8, none⟩ = some (.slice A1_8 l1_8.length c1_8) := (blk_cell BK247.out 8).trans rfl
      have hfz36_0 := blk_frozen BK247.out 0
      have hfz36_1 := blk_frozen BK247.out 1
      have hfz36_2 := blk_frozen BK247.out 2
      have hfz36_3 := blk_frozen BK247.out 3
      have hfz36_4 := blk_frozen BK247.out 4
      have hfz36_5 := blk_frozen BK247.out 5
      have hfz36_6 := blk_frozen BK247.out 6
      have hfz36_7 := blk_frozen BK247.out 7
      have hfz36_8 := blk_frozen BK247.out 8
      go_wp2
      repeat (go_quiet (fail); try go_wp2)
      go_meet
      case rel => exact ⟨_, (true), (by first | rfl | (simp; done) | (simp [*]; done)), H', ⟨by first | omega | exact Nat.le_refl _⟩, ⟨by (with_reducible repeat (first | refine blk_drewN ?_ _ | refine blk_drew ?_ | refine blk_alloc ?_ _)); exact BK246.out⟩, ⟨by (with_reducible repeat (first | refine blk_drewN ?_ _ | refine blk_drew ?_ | refine blk_alloc ?_ _)); exact BK247.out⟩, ⟨by repeat (first | (with_reducible first | exact HB.out | apply below_alloc | apply pw_below_drewN | apply below_drew1 | refine below_set ?_ GE246.out | refine below_set ?_ GE247.out) | exact HB.out)⟩⟩
  case rest =>
    clear HC3
    try clear c1
    try clear c2
    try clear p2
    try clear c3
    try clear c6
    try clear c6b0
    try clear c6b1
    try clear c7
    try clear c7b0
    try clear c7b1
    try clear c8
    try clear c8b0
    try clear c8b1
    try clear c9
    try clear c9b0
    try clear c9b1
    try clear c10
    try clear c10b0
    try clear c10b1
    try clear c11
    try clear c11b0
    try clear c11b1
    try clear c12
    try clear c12b0
    try clear c12b1
    try clear c13
    try clear c16
    try clear c17
    try clear c19
    try clear c22
    try clear c25
    try clear c28
    try clear c31
    try clear c34
    try clear hcz14_0
    try clear hcz14_1
    try clear hcz14_2
    try clear hcz14_3
    try clear hcz14_4
    try clear hcz14_5
    try clear hcz14_6
    try clear hcz14_7
    try clear hcz14_8
    try clear hcz15_0
    try clear hcz15_1
    try clear hcz15_2
    try clear hcz15_3
    try clear hcz15_4
    try clear hcz15_5
    try clear hcz15_6
    try clear hcz15_7
    try clear hcz15_8
    try clear hcz17_0
    try clear hcz17_1
    try clear hcz17_2
    try clear hcz17_3
    try clear hcz17_4
    try clear hcz17_5
    try clear hcz17_6
    try clear hcz17_7
    try clear hcz17_8
    try clear hcz18_0
    try clear hcz18_1
    try clear hcz18_2
    try clear hcz18_3
    try clear hcz18_4
    try clear hcz18_5
    try clear hcz18_6
    try clear hcz18_7
    try clear hcz18_8
    try clear hcz20_0
    try clear hcz20_1
    try clear hcz20_2
    try clear hcz20_3
    try clear hcz20_4
    try clear hcz20_5
    try clear hcz20_6
    try clear hcz20_7
    try clear hcz20_8
    try clear hcz21_0
    try clear hcz21_1
    try clear hcz21_2
    try clear hcz21_3
    try clear hcz21_4
    try clear hcz21_5
    try clear hcz21_6
    try clear hcz21_7
    try clear hcz21_8
    try clear hcz23_0
    try clear hcz23_1
    try clear hcz23_2
    try clear hcz23_3
    try clear hcz23_4
    try clear hcz23_5
    try clear hcz23_6
    try clear hcz23_7
    try clear hcz23_8
    try clear hcz24_0
    try clear hcz24_1
    try clear hcz24_2
    try clear hcz24_3
    try clear hcz24_4
    try clear hcz24_5
    try clear hcz24_6
    try clear hcz24_7
    try clear hcz24_8
    try clear hcz26_0
    try clear hcz26_1
    try clear hcz26_2
    try clear hcz26_3
    try clear hcz26_4
    try clear hcz26_5
    try clear hcz26_6
    try clear hcz26_7
    try clear hcz26_8
    try clear hcz27_0
    try clear hcz27_1
    try clear hcz27_2
    try clear hcz27_3
    try clear hcz27_4
    try clear hcz27_5
    try clear hcz27_6
    try clear hcz27_7
    try clear hcz27_8
    try clear hcz29_0
    try clear hcz29_1
    try clear hcz29_2
    try clear hcz29_3
    try clear hcz29_4
    try clear hcz29_5
    try clear hcz29_6
    try clear hcz29_7
    try clear hcz29_8
    try clear hcz30_0
    try clear hcz30_1
    try clear hcz30_2
    try clear hcz30_3
    try clear hcz30_4
    try clear hcz30_5
    try clear hcz30_6
    try clear hcz30_7
    try clear hcz30_8
    try clear hcz32_0
    try clear hcz32_1
    try clear hcz32_2
    try clear hcz32_3
    try clear hcz32_4
    try clear hcz32_5
    try clear hcz32_6
    try clear hcz32_7
    try clear hcz32_8
    try clear hcz33_0
    try clear hcz33_1
    try clear hcz33_2
    try clear hcz33_3
    try clear hcz33_4
    try clear hcz33_5
    try clear hcz33_6
    try clear hcz33_7
    try clear hcz33_8
    try clear hcz35_0
    try clear hcz35_1
    try clear hcz35_2
    try clear hcz35_3
    try clear hcz35_4
    try clear hcz35_5
    try clear hcz35_6
    try clear hcz35_7
    try clear hcz35_8
    try clear hcz36_0
    try clear hcz36_1
    try clear hcz36_2
    try clear hcz36_3
    try clear hcz36_4
    try clear hcz36_5
    try clear hcz36_6
    try clear hcz36_7
    try clear hcz36_8
    try clear hfz14_0
    try clear hfz14_1
    try clear hfz14_2
    try clear hfz14_3
    try clear hfz14_4
    try clear hfz14_5
    try clear hfz14_6
    try clear hfz14_7
    try clear hfz14_8
    try clear hfz15_0
    try clear hfz15_1
    try clear hfz15_2
    try clear hfz15_3
    try clear hfz15_4
    try clear hfz15_5
    try clear hfz15_6
    try clear hfz15_7
    try clear hfz15_8
    try clear hfz17_0
    try clear hfz17_1
    try clear hfz17_2
    try clear hfz17_3
    try clear hfz17_4
    try clear hfz17_5
    try clear hfz17_6
    try clear hfz17_7
    try clear hfz17_8
    try clear hfz18_0
    try clear hfz18_1
    try clear hfz18_2
    try clear hfz18_3
    try clear hfz18_4
    try clear hfz18_5
    try clear hfz18_6
    try clear hfz18_7
    try clear hfz18_8
    try clear hfz20_0
    try clear hfz20_1
    try clear hfz20_2
    try clear hfz20_3
    try clear hfz20_4
    try clear hfz20_5
    try clear hfz20_6
    try clear hfz20_7
    try clear hfz20_8
    try clear hfz21_0
    try clear hfz21_1
    try clear hfz21_2
    try clear hfz21_3
    try clear hfz21_4
    try clear hfz21_5
    try clear hfz21_6
    try clear hfz21_7
    try clear hfz21_8
    try clear hfz23_0
    try clear hfz23_1
    try clear hfz23_2
    try clear hfz23_3
    try clear hfz23_4
    try clear hfz23_5
    try clear hfz23_6
    try clear hfz23_7
    try clear hfz23_8
    try clear hfz24_0
    try clear hfz24_1
    try clear hfz24_2
    try clear hfz24_3
    try clear hfz24_4
    try clear hfz24_5
    try clear hfz24_6
    try clear hfz24_7
    try clear hfz24_8
    try clear hfz26_0
    try clear hfz26_1
    try clear hfz26_2
    try clear hfz26_3
    try clear hfz26_4
    try clear hfz26_5
    try clear hfz26_6
    try clear hfz26_7
    try clear hfz26_8
    try clear hfz27_0
    try clear hfz27_1
    try clear hfz27_2
    try clear hfz27_3
    try clear hfz27_4
    try clear hfz27_5
    try clear hfz27_6
    try clear hfz27_7
    try clear hfz27_8
    try clear hfz29_0
    try clear hfz29_1
    try clear hfz29_2
    try clear hfz29_3
    try clear hfz29_4
    try clear hfz29_5
    try clear hfz29_6
    try clear hfz29_7
    try clear hfz29_8
    try clear hfz30_0
    try clear hfz30_1
    try clear hfz30_2
    try clear hfz30_3
    try clear hfz30_4
    try clear hfz30_5
    try clear hfz30_6
    try clear hfz30_7
    try clear hfz30_8
    try clear hfz32_0
    try clear hfz32_1
    try clear hfz32_2
    try clear hfz32_3
    try clear hfz32_4
    try clear hfz32_5
    try clear hfz32_6
    try clear hfz32_7
    try clear hfz32_8
    try clear hfz33_0
    try clear hfz33_1
    try clear hfz33_2
    try clear hfz33_3
    try clear hfz33_4
    try clear hfz33_5
    try clear hfz33_6
    try clear hfz33_7
    try clear hfz33_8
    try clear hfz35_0
    try clear hfz35_1
    try clear hfz35_2
    try clear hfz35_3
    try clear hfz35_4
    try clear hfz35_5
    try clear hfz35_6
    try clear hfz35_7
    try clear hfz35_8
    try clear hfz36_0
    try clear hfz36_1
    try clear hfz36_2
    try clear hfz36_3
    try clear hfz36_4
    try clear hfz36_5
    try clear hfz36_6
    try clear hfz36_7
    try clear hfz36_8
    obtain ⟨kq, x40_2, rfl, HA, HJ2, BK246, BK247, HB⟩ := hcut
    cases kq with
    | zero => exact absurd HA.out (by simp [manometerref18_Same.j0])
    | succ kj2 =>
      have H := HA.out
      clear HA
      simp only [manometerref18_Same.j0] at H
      by_cases c37 : x40_2 = true
      · subst c37
        have H1 : (some false) = some r := by rw [if_pos rfl] at H; exact H
        clear H
        have H := H1
        clear H1
        obtain rfl := Option.some.inj H
        go_wp2
        repeat (go_quiet (fail); try go_wp2)
        go_ret
        exact ⟨by first | rfl | (simp [errW_none, errW_some] <;> rfl) | (simp [*, errW_none, errW_some] <;> rfl), by repeat (first | (with_reducible first | exact HB.out | apply below_alloc | apply pw_below_drewN | apply below_drew1 | refine below_set ?_ GE246.out | refine below_set ?_ GE247.out) | exact HB.out)⟩
      · replace c37 := Bool.eq_false_iff.mpr c37
        subst c37
        have H1 : (manometerref18_Same.l0 kj2 (l0_1.length : Int) 0 a0_0 l0_1 a0_2 a0_3 a0_4 a0_5 a0_6 a0_7 l0_8 a1_0 l1_1 a1_2 a1_3 a1_4 a1_5 a1_6 a1_7 l1_8) = some r := by rw [if_neg (show ¬ (false = true) by decide)] at H; exact H
        clear H
        have H := H1
        clear H1
        have H' := Aside0.mk H
        clear H
        have hnb38 := NB246_247.out
        have hnc38 := NB247_246.out
        have hcz39_0 : wc.cell? ⟨gb246, 0, none⟩ = some (.string a0_0) := (blk_cell BK246.out 0).trans rfl
        have hcz39_1 : wc.cell? ⟨gb246, 1, none⟩ = some (.slice A0_1 l0_1.length c0_1) := (blk_cell BK246.out 1).trans rfl
        have hcz39_2 : wc.cell? ⟨gb246, 2, none⟩ = some (.int .i64 a0_2) := (blk_cell BK246.out 2).trans rfl
        have hcz39_3 : wc.cell? ⟨gb246, 3, none⟩ = some (.int .i64 a0_3) := (blk_cell BK246.out 3).trans rfl
        have hcz39_4 : wc.cell? ⟨gb246, 4, none⟩ = some (.int .i64 a0_4) := (blk_cell BK246.out 4).trans rfl
        have hcz39_5 : wc.cell? ⟨gb246, 5, none⟩ = some (.int .i64 a0_5) := (blk_cell BK246.out 5).trans rfl
        have hcz39_6 : wc.cell? ⟨gb246, 6, none⟩ = some (.int .i64 a0_6) := (blk_cell BK246.out 6).trans rfl
        have hcz39_7 : wc.cell? ⟨gb246, 7, none⟩ = some (.int .i64 a0_7) := (blk_cell BK246.out 7).trans rfl
        have hcz39_8 : wc.cell? ⟨gb246, 8, none⟩ = some (.slice A0_8 l0_8.length c0_8) := (blk_cell BK246.out 8).trans rfl
        have hfz39_0 := blk_frozen BK246.out 0
        have hfz39_1 := blk_frozen BK246.out 1
        have hfz39_2 := blk_frozen BK246.out 2
        have hfz39_3 := blk_frozen BK246.out 3
        have hfz39_4 := blk_frozen BK246.out 4
        have hfz39_5 := blk_frozen BK246.out 5
        have hfz39_6 := blk_frozen BK246.out 6
        have hfz39_7 := blk_frozen BK246.out 7
        have hfz39_8 := blk_frozen BK246.out 8
        go_wp2
        repeat (go_quiet (fail); try go_wp2)
        go_loopg [44] kj2 (fun kq v44 w' => ∃ (x44_2 : Int), v44 = .int .i64 x44_2 ∧ Aside0 (manometerref18_Same.l0 kq (l0_1.length : Int) x44_2 a0_0 l0_1 a0_2 a0_3 a0_4 a0_5 a0_6 a0_7 l0_8 a1_0 l1_1 a1_2 a1_3 a1_4 a1_5 a1_6 a1_7 l1_8 = some r) ∧ Aside0 (kq ≤ kj2) ∧ Aside0 (w'.heap[gb246]? = some (.cells #[.string a0_0, (.slice A0_1 l0_1.length c0_1), .int .i64 a0_2, .int .i64 a0_3, .int .i64 a0_4, .int .i64 a0_5, .int .i64 a0_6, .int .i64 a0_7, (.slice A0_8 l0_8.length c0_8)] 39 (0, 0))) ∧ Aside0 (w'.heap[gb247]? = some (.cells #[.string a1_0, (.slice A1_1 l1_1.length c1_1), .int .i64 a1_2, .int .i64 a1_3, .int .i64 a1_4, .int .i64 a1_5, .int .i64 a1_6, .int .i64 a1_7, (.slice A1_8 l1_8.length c1_8)] 39 (0, 0))) ∧ Aside0 (Below w.heap.size w w'))
        case atStart => exact ⟨(0), (by first | rfl | (simp; done) | (simp [*]; done)), H', ⟨Nat.le_refl _⟩, ⟨by (with_reducible repeat (first | refine blk_drewN ?_ _ | refine blk_drew ?_ | refine blk_alloc ?_ _)); exact BK246.out⟩, ⟨by (with_reducible repeat (first | refine blk_drewN ?_ _ | refine blk_drew ?_ | refine blk_alloc ?_ _)); exact BK247.out⟩, ⟨by repeat (first | (with_reducible first | exact HB.out | apply below_alloc | apply pw_below_drewN | apply below_drew1 | refine below_set ?_ GE246.out | refine below_set ?_ GE247.out) | exact HB.out)⟩⟩
        case round =>
          clear H'
          try clear c1
          try clear c2
          try clear p2
          try clear c3
          try clear c6
          try clear c6b0
          try clear c6b1
          try clear c7
          try clear c7b0
          try clear c7b1
          try clear c8
          try clear c8b0
          try clear c8b1
          try clear c9
          try clear c9b0
          try clear c9b1
          try clear c10
          try clear c10b0
          try clear c10b1
          try clear c11
          try clear c11b0
          try clear c11b1
          try clear c12
          try clear c12b0
          try clear c12b1
          try clear c13
          try clear c16
          try clear c17
          try clear c19
          try clear c22
          try clear c25
          try clear c28
          try clear c31
          try clear c34
          try clear c37
          try clear c38
          try clear hcz14_0
          try clear hcz14_1
          try clear hcz14_2
          try clear hcz14_3
          try clear hcz14_4
          try clear hcz14_5
          try clear hcz14_6
          try clear hcz14_7
          try clear hcz14_8
          try clear hcz15_0
          try clear hcz15_1
          try clear hcz15_2
          try clear hcz15_3
          try clear hcz15_4
          try clear hcz15_5
          try clear hcz15_6
          try clear hcz15_7
          try clear hcz15_8
          try clear hcz17_0
          try clear hcz17_1
          try clear hcz17_2
          try clear hcz17_3
          try clear hcz17_4
          try clear hcz17_5
          try clear hcz17_6
          try clear hcz17_7
          try clear hcz17_8
          try clear hcz18_0
          try clear hcz18_1
          try clear hcz18_2
          try clear hcz18_3
          try clear hcz18_4
          try clear hcz18_5
          try clear hcz18_6
          try clear hcz18_7
          try clear hcz18_8
          try clear hcz20_0
          try clear hcz20_1
          try clear hcz20_2
          try clear hcz20_3
          try clear hcz20_4
          try clear hcz20_5
          try clear hcz20_6
          try clear hcz20_7
          try clear hcz20_8
          try clear hcz21_0
          try clear hcz21_1
          try clear hcz21_2
          try clear hcz21_3
          try clear hcz21_4
          try clear hcz21_5
          try clear hcz21_6
          try clear hcz21_7
          try clear hcz21_8
          try clear hcz23_0
          try clear hcz23_1
          try clear hcz23_2
          try clear hcz23_3
          try clear hcz23_4
          try clear hcz23_5
          try clear hcz23_6
          try clear hcz23_7
          try clear hcz23_8
          try clear hcz24_0
          try clear hcz24_1
          try clear hcz24_2
          try clear hcz24_3
          try clear hcz24_4
          try clear hcz24_5
          try clear hcz24_6
          try clear hcz24_7
          try clear hcz24_8
          try clear hcz26_0
          try clear hcz26_1
          try clear hcz26_2
          try clear hcz26_3
          try clear hcz26_4
          try clear hcz26_5
          try clear hcz26_6
          try clear hcz26_7
          try clear hcz26_8
          try clear hcz27_0
          try clear hcz27_1
          try clear hcz27_2
          try clear hcz27_3
          try clear hcz27_4
          try clear hcz27_5
          try clear hcz27_6
          try clear hcz27_7
          try clear hcz27_8
          try clear hcz29_0
          try clear hcz29_1
          try clear hcz29_2
          try clear hcz29_3
          try clear hcz29_4
          try clear hcz29_5
          try clear hcz29_6
          try clear hcz29_7
          try clear hcz29_8
          try clear hcz30_0
          try clear hcz30_1
          try clear hcz30_2
          try clear hcz30_3
          try clear hcz30_4
          try clear hcz30_5
          try clear hcz30_6
          try clear hcz30_7
          try clear hcz30_8
          try clear hcz32_0
          try clear hcz32_1
          try clear hcz32_2
          try clear hcz32_3
          try clear hcz32_4
          try clear hcz32_5
          try clear hcz32_6
          try clear hcz32_7
          try clear hcz32_8
          try clear hcz33_0
          try clear hcz33_1
          try clear hcz33_2
          try clear hcz33_3
          try clear hcz33_4
          try clear hcz33_5
          try clear hcz33_6
          try clear hcz33_7
          try clear hcz33_8
          try clear hcz35_0
          try clear hcz35_1
          try clear hcz35_2
          try clear hcz35_3
          try clear hcz35_4
          try clear hcz35_5
          try clear hcz35_6
          try clear hcz35_7
          try clear hcz35_8
          try clear hcz36_0
          try clear hcz36_1
          try clear hcz36_2
          try clear hcz36_3
          try clear hcz36_4
          try clear hcz36_5
          try clear hcz36_6
          try clear hcz36_7
          try clear hcz36_8
          try clear hcz39_0
          try clear hcz39_1
          try clear hcz39_2
          try clear hcz39_3
          try clear hcz39_4
          try clear hcz39_5
          try clear hcz39_6
          try clear hcz39_7
          try clear hcz39_8
          try clear hfz14_0
          try clear hfz14_1
          try clear hfz14_2
          try clear hfz14_3
          try clear hfz14_4
          try clear hfz14_5
          try clear hfz14_6
          try clear hfz14_7
          try clear hfz14_8
          try clear hfz15_0
          try clear hfz15_1
          try clear hfz15_2
          try clear hfz15_3
          try clear hfz15_4
          try clear hfz15_5
          try clear hfz15_6
          try clear hfz15_7
          try clear hfz15_8
          try clear hfz17_0
          try clear hfz17_1
          try clear hfz17_2
          try clear hfz17_3
          try clear hfz17_4
          try clear hfz17_5
          try clear hfz17_6
          try clear hfz17_7
          try clear hfz17_8
          try clear hfz18_0
          try clear hfz18_1
          try clear hfz18_2
          try clear hfz18_3
          try clear hfz18_4
          try clear hfz18_5
          try clear hfz18_6
          try clear hfz18_7
          try clear hfz18_8
          try clear hfz20_0
          try clear hfz20_1
          try clear hfz20_2
          try clear hfz20_3
          try clear hfz20_4
          try clear hfz20_5
          try clear hfz20_6
          try clear hfz20_7
          try clear hfz20_8
          try clear hfz21_0
          try clear hfz21_1
          try clear hfz21_2
          try clear hfz21_3
          try clear hfz21_4
          try clear hfz21_5
          try clear hfz21_6
          try clear hfz21_7
          try clear hfz21_8
          try clear hfz23_0
          try clear hfz23_1
          try clear hfz23_2
          try clear hfz23_3
          try clear hfz23_4
          try clear hfz23_5
          try clear hfz23_6
          try clear hfz23_7
          try clear hfz23_8
          try clear hfz24_0
          try clear hfz24_1
          try clear hfz24_2
          try clear hfz24_3
          try clear hfz24_4
          try clear hfz24_5
          try clear hfz24_6
          try clear hfz24_7
          try clear hfz24_8
          try clear hfz26_0
          try clear hfz26_1
          try clear hfz26_2
          try clear hfz26_3
          try clear hfz26_4
          try clear hfz26_5
          try clear hfz26_6
          try clear hfz26_7
          try clear hfz26_8
          try clear hfz27_0
          try clear hfz27_1
          try clear hfz27_2
          try clear hfz27_3
          try clear hfz27_4
          try clear hfz27_5
          try clear hfz27_6
          try clear hfz27_7
          try clear hfz27_8
          try clear hfz29_0
          try clear hfz29_1
          try clear hfz29_2
          try clear hfz29_3
          try clear hfz29_4
          try clear hfz29_5
          try clear hfz29_6
          try clear hfz29_7
          try clear hfz29_8
          try clear hfz30_0
          try clear hfz30_1
          try clear hfz30_2
          try clear hfz30_3
          try clear hfz30_4
          try clear hfz30_5
          try clear hfz30_6
          try clear hfz30_7
          try clear hfz30_8
          try clear hfz32_0
          try clear hfz32_1
          try clear hfz32_2
          try clear hfz32_3
          try clear hfz32_4
          try clear hfz32_5
          try clear hfz32_6
          try clear hfz32_7
          try clear hfz32_8
          try clear hfz33_0
          try clear hfz33_1
          try clear hfz33_2
          try clear hfz33_3
          try clear hfz33_4
          try clear hfz33_5
          try clear hfz33_6
          try clear hfz33_7
          try clear hfz33_8
          try clear hfz35_0
          try clear hfz35_1
          try clear hfz35_2
          try clear hfz35_3
          try clear hfz35_4
          try clear hfz35_5
          try clear hfz35_6
          try clear hfz35_7
          try clear hfz35_8
          try clear hfz36_0
          try clear hfz36_1
          try clear hfz36_2
          try clear hfz36_3
          try clear hfz36_4
          try clear hfz36_5
          try clear hfz36_6
          try clear hfz36_7
          try clear hfz36_8
          try clear hfz39_0
          try clear hfz39_1
          try clear hfz39_2
          try clear hfz39_3
          try clear hfz39_4
          try clear hfz39_5
          try clear hfz39_6
          try clear hfz39_7
          try clear hfz39_8
          try clear p2
          obtain ⟨x44_2, rfl, HA, HK2, BK246, BK247, HB⟩ := hrel
          cases gk with
          | zero => exact absurd HA.out (by simp [manometerref18_Same.l0])
          | succ k2 =>
            have H := HA.out
            clear HA
            simp only [manometerref18_Same.l0] at H
            by_cases c40 : x44_2 < (l0_1.length : Int)
            · rw [if_pos c40] at H
              have c40b0 : decide (x44_2 < (l0_1.length : Int)) = true := decide_eq_true c40
              clear c40
              by_cases c41 : 0 ≤ x44_2
              rotate_left
              · rw [if_neg c41] at H
                exact absurd H (by simp)
              rw [if_pos c41] at H
              have c41b0 : decide (0 ≤ x44_2) = true := decide_eq_true c41
              clear c41
              by_cases c42 : x44_2 < (l0_1.length : Int)
              rotate_left
              · rw [if_neg c42] at H
                exact absurd H (by simp)
              rw [if_pos c42] at H
              have c42b0 : decide (x44_2 < (l0_1.length : Int)) = true := decide_eq_true c42
              clear c42
              by_cases c43 : x44_2 < (l1_1.length : Int)
              rotate_left
              · rw [if_neg c43] at H
                exact absurd H (by simp)
              rw [if_pos c43] at H
              have c43b0 : decide (x44_2 < (l1_1.length : Int)) = true := decide_eq_true c43
              clear c43
              by_cases c44 : ((rd_T23 l0_1 x44_2).f0) = ((rd_T23 l1_1 x44_2).f0)
              · rw [if_pos c44] at H
                have c44b0 : (((rd_T23 l0_1 x44_2).f0) == ((rd_T23 l1_1 x44_2).f0)) = true := beq_iff_eq.mpr c44
                have c44b1 : (((rd_T23 l0_1 x44_2).f0) != ((rd_T23 l1_1 x44_2).f0)) = false := bne_eq_false_iff_eq.mpr c44
                clear c44
                by_cases c45 : (((rd_T23 l0_1 x44_2).f1).toList) = (((rd_T23 l1_1 x44_2).f1).toList)
                · rw [if_pos c45] at H
                  have c45b0 : ((((rd_T23 l0_1 x44_2).f1).toList) == (((rd_T23 l1_1 x44_2).f1).toList)) = true := beq_iff_eq.mpr c45
                  have c45b1 : ((((rd_T23 l0_1 x44_2).f1).toList) != (((rd_T23 l1_1 x44_2).f1).toList)) = false := bne_eq_false_iff_eq.mpr c45
                  clear c45
                  have H' := Aside0.mk H
                  clear H
                  have hnb46 := NB246_247.out
                  have hnc46 := NB247_246.out
                  have hcz47_0 : wr.cell? ⟨gb246, 0, none⟩ = some (.string a0_0) := (blk_cell BK246.out 0).trans rfl
                  have hcz47_1 : wr.cell? ⟨gb246, 1, none⟩ = some (.slice A0_1 l0_1.length c0_1) := (blk_cell BK246.out 1).trans rfl
                  have hcz47_2 : wr.cell? ⟨gb246, 2, none⟩ = some (.int .i64 a0_2) := (blk_cell BK246.out 2).trans rfl
                  have hcz47_3 : wr.cell? ⟨gb246, 3, none⟩ = some (.int .i64 a0_3) := (blk_cell BK246.out 3).trans rfl
                  have hcz47_4 : wr.cell? ⟨gb246, 4, none⟩ = some (.int .i64 a0_4) := (blk_cell BK246.out 4).trans rfl
                  have hcz47_5 : wr.cell? ⟨gb246, 5, none⟩ = some (.int .i64 a0_5) := (blk_cell BK246.out 5).trans rfl
                  have hcz47_6 : wr.cell? ⟨gb246, 6, none⟩ = some (.int .i64 a0_6) := (blk_cell BK246.out 6).trans rfl
                  have hcz47_7 : wr.cell? ⟨gb246, 7, none⟩ = some (.int .i64 a0_7) := (blk_cell BK246.out 7).trans rfl
                  have hcz47_8 : wr.cell? ⟨gb246, 8, none⟩ = some (.slice A0_8 l0_8.length c0_8) := (blk_cell BK246.out 8).trans rfl
                  have hfz47_0 := blk_frozen BK246.out 0
                  have hfz47_1 := blk_frozen BK246.out 1
                  have hfz47_2 := blk_frozen BK246.out 2
                  have hfz47_3 := blk_frozen BK246.out 3
                  have hfz47_4 := blk_frozen BK246.out 4
                  have hfz47_5 := blk_frozen BK246.out 5
                  have hfz47_6 := blk_frozen BK246.out 6
                  have hfz47_7 := blk_frozen BK246.out 7
                  have hfz47_8 := blk_frozen BK246.out 8
                  have p248 : 0 ≤ (x44_2 : Int) := of_decide_eq_true (by first | (with_reducible assumption) | assumption)
                  have q248 : x44_2 < (l0_1.length : Int) := of_decide_eq_true (by first | (with_reducible assumption) | assumption)
                  obtain ⟨ad248, e248, hx248_0, hx248_1⟩ := at_T23 HR0_1.out x44_2 p248 q248
                  cases e248
                  replace hx248_0 := (HB.out.cell (World.block_lt_of_cell? w _ hx248_0)).trans hx248_0
                  replace hx248_1 := (HB.out.cell (World.block_lt_of_cell? w _ hx248_1)).trans hx248_1
                  replace p248 := eq_true p248
                  replace q248 := eq_true q248
                  have hcz48_0 : wr.cell? ⟨gb247, 0, none⟩ = some (.string a1_0) := (blk_cell BK247.out 0).trans rfl
                  have hcz48_1 : wr.cell? ⟨gb247, 1, none⟩ = some (.slice A1_1 l1_1.length c1_1) := (blk_cell BK247.out 1).trans rfl
                  have hcz48_2 : wr.cell? ⟨gb247, 2, none⟩ = some (.int .i64 a1_2) := (blk_cell BK247.out 2).trans rfl
                  have hcz48_3 : wr.cell? ⟨gb247, 3, none⟩ = some (.int .i64 a1_3) := (blk_cell BK247.out 3).trans rfl
                  have hcz48_4 : wr.cell? ⟨gb247, 4, none⟩ = some (.int .i64 a1_4) := (blk_cell BK247.out 4).trans rfl
                  have hcz48_5 : wr.cell? ⟨gb247, 5, none⟩ = some (.int .i64 a1_5) := (blk_cell BK247.out 5).trans rfl
                  have hcz48_6 : wr.cell? ⟨gb247, 6, none⟩ = some (.int .i64 a1_6) := (blk_cell BK247.out 6).trans rfl
                  have hcz48_7 : wr.cell? ⟨gb247, 7, none⟩ = some (.int .i64 a1_7) := (blk_cell BK247.out 7).trans rfl
                  have hcz48_8 : wr.cell? ⟨gb247, 8, none⟩ = some (.slice A1_8 l1_8.length c1_8) := (blk_cell BK247.out 8).trans rfl
                  have hfz48_0 := blk_frozen BK247.out 0
                  have hfz48_1 := blk_frozen BK247.out 1
                  have hfz48_2 := blk_frozen BK247.out 2
                  have hfz48_3 := blk_frozen BK247.out 3
                  have hfz48_4 := blk_frozen BK247.out 4
                  have hfz48_5 := blk_frozen BK247.out 5
                  have hfz48_6 := blk_frozen BK247.out 6
                  have hfz48_7 := blk_frozen BK247.out 7
                  have hfz48_8 := blk_frozen BK247.out 8
                  have p249 : 0 ≤ (x44_2 : Int) := of_decide_eq_true (by first | (with_reducible assumption) | assumption)
                  have q249 : x44_2 < (l1_1.length : Int) := of_decide_eq_true (by first | (with_reducible assumption) | assumption)
                  obtain ⟨ad249, e249, hx249_0, hx249_1⟩ := at_T23 HR1_1.out x44_2 p249 q249
                  cases e249
                  replace hx249_0 := (HB.out.cell (World.block_lt_of_cell? w _ hx249_0)).trans hx249_0
                  replace hx249_1 := (HB.out.cell (World.block_lt_of_cell? w _ hx249_1)).trans hx249_1
                  replace p249 := eq_true p249
                  replace q249 := eq_true q249
                  go_wp2
                  repeat (go_quiet (fail); try go_wp2)
                  go_roundg k2
                  case measure => have := HJ2.out; have := HK2.out; omega
                  case rel => exact ⟨(wrap64 (x44_2 + 1)), (by first | rfl | (simp; done) | (simp [*]; done)), H', ⟨by have := HJ2.out; have := HK2.out; omega⟩, ⟨by (with_reducible repeat (first | refine blk_drewN ?_ _ | refine blk_drew ?_ | refine blk_alloc ?_ _)); exact BK246.out⟩, ⟨by (with_reducible repeat (first | refine blk_drewN ?_ _ | refine blk_drew ?_ | refine blk_alloc ?_ _)); exact BK247.out⟩, ⟨by repeat (first | (with_reducible first | exact HB.out | apply below_alloc | apply pw_below_drewN | apply below_drew1 | refine below_set ?_ GE246.out | refine below_set ?_ GE247.out) | exact HB.out)⟩⟩
                · rw [if_neg c45] at H
                  have c45b0 : ((((rd_T23 l0_1 x44_2).f1).toList) == (((rd_T23 l1_1 x44_2).f1).toList)) = false := beq_eq_false_iff_ne.mpr c45
                  have c45b1 : ((((rd_T23 l0_1 x44_2).f1).toList) != (((rd_T23 l1_1 x44_2).f1).toList)) = true := bne_iff_ne.mpr c45
                  obtain rfl := Option.some.inj H
                  have hnb49 := NB246_247.out
                  have hnc49 := NB247_246.out
                  have hcz50_0 : wr.cell? ⟨gb246, 0, none⟩ = some (.string a0_0) := (blk_cell BK246.out 0).trans rfl
                  have hcz50_1 : wr.cell? ⟨gb246, 1, none⟩ = some (.slice A0_1 l0_1.length c0_1) := (blk_cell BK246.out 1).trans rfl
                  have hcz50_2 : wr.cell? ⟨gb246, 2, none⟩ = some (.int .i64 a0_2) := (blk_cell BK246.out 2).trans rfl
                  have hcz50_3 : wr.cell? ⟨gb246, 3, none⟩ = some (.int .i64 a0_3) := (blk_cell BK246.out 3).trans rfl
                  have hcz50_4 : wr.cell? ⟨gb246, 4, none⟩ = some (.int .i64 a0_4) := (blk_cell BK246.out 4).trans rfl
                  have hcz50_5 : wr.cell? ⟨gb246, 5, none⟩ = some (.int .i64 a0_5) := (blk_cell BK246.out 5).trans rfl
                  have hcz50_6 : wr.cell? ⟨gb246, 6, none⟩ = some (.int .i64 a0_6) := (blk_cell BK246.out 6).trans rfl
                  have hcz50_7 : wr.cell? ⟨gb246, 7, none⟩ = some (.int .i64 a0_7) := (blk_cell BK246.out 7).trans rfl
                  have hcz50_8 : wr.cell? ⟨gb246, 8, none⟩ = some (.slice A0_8 l0_8.length c0_8) := (blk_cell BK246.out 8).trans rfl
                  have hfz50_0 := blk_frozen BK246.out 0
                  have hfz50_1 := blk_frozen BK246.out 1
                  have hfz50_2 := blk_frozen BK246.out 2
                  have hfz50_3 := blk_frozen BK246.out 3
                  have hfz50_4 := blk_frozen BK246.out 4
                  have hfz50_5 := blk_frozen BK246.out 5
                  have hfz50_6 := blk_frozen BK246.out 6
                  have hfz50_7 := blk_frozen BK246.out 7
                  have hfz50_8 := blk_frozen BK246.out 8
                  have p248 : 0 ≤ (x44_2 : Int) := of_decide_eq_true (by first | (with_reducible assumption) | assumption)
                  have q248 : x44_2 < (l0_1.length : Int) := of_decide_eq_true (by first | (with_reducible assumption) | assumption)
                  obtain ⟨ad248, e248, hx248_0, hx248_1⟩ := at_T23 HR0_1.out x44_2 p248 q248
                  cases e248
                  replace hx248_0 := (HB.out.cell (World.block_lt_of_cell? w _ hx248_0)).trans hx248_0
                  replace hx248_1 := (HB.out.cell (World.block_lt_of_cell? w _ hx248_1)).trans hx248_1
                  replace p248 := eq_true p248
                  replace q248 := eq_true q248
                  have hcz51_0 : wr.cell? ⟨gb247, 0, none⟩ = some (.string a1_0) := (blk_cell BK247.out 0).trans rfl
                  have hcz51_1 : wr.cell? ⟨gb247, 1, none⟩ = some (.slice A1_1 l1_1.length c1_1) := (blk_cell BK247.out 1).trans rfl
                  have hcz51_2 : wr.cell? ⟨gb247, 2, none⟩ = some (.int .i64 a1_2) := (blk_cell BK247.out 2).trans rfl
                  have hcz51_3 : wr.cell? ⟨gb247, 3, none⟩ = some (.int .i64 a1_3) := (blk_cell BK247.out 3).trans rfl
                  have hcz51_4 : wr.cell? ⟨gb247, 4, none⟩ = some (.int .i64 a1_4) := (blk_cell BK247.out 4).trans rfl
                  have hcz51_5 : wr.cell? ⟨gb247, 5, none⟩ = some (.int .i64 a1_5) := (blk_cell BK247.out 5).trans rfl
                  have hcz51_6 : wr.cell? ⟨gb247, 6, none⟩ = some (.int .i64 a1_6) := (blk_cell BK247.out 6).trans rfl
                  have hcz51_7 : wr.cell? ⟨gb247, 7, none⟩ = some (.int .i64 a1_7) := (blk_cell BK247.out 7).trans rfl
                  have hcz51_8 : wr.cell? ⟨gb247, 8, none⟩ = some (.slice A1_8 l1_8.length c1_8) := (blk_cell BK247.out 8).trans rfl
                  have hfz51_0 := blk_frozen BK247.out 0
                  have hfz51_1 := blk_frozen BK247.out 1
                  have hfz51_2 := blk_frozen BK247.out 2
                  have hfz51_3 := blk_frozen BK247.out 3
                  have hfz51_4 := blk_frozen BK247.out 4
                  have hfz51_5 := blk_frozen BK247.out 5
                  have hfz51_6 := blk_frozen BK247.out 6
                  have hfz51_7 := blk_frozen BK247.out 7
                  have hfz51_8 := blk_frozen BK247.out 8
                  have p249 : 0 ≤ (x44_2 : Int) := of_decide_eq_true (by first | (with_reducible assumption) | assumption)
                  have q249 : x44_2 < (l1_1.length : Int) := of_decide_eq_true (by first | (with_reducible assumption) | assumption)
                  obtain ⟨ad249, e249, hx249_0, hx249_1⟩ := at_T23 HR1_1.out x44_2 p249 q249
                  cases e249
                  replace hx249_0 := (HB.out.cell (World.block_lt_of_cell? w _ hx249_0)).trans hx249_0
                  replace hx249_1 := (HB.out.cell (World.block_lt_of_cell? w _ hx249_1)).trans hx249_1
                  replace p249 := eq_true p249
                  replace q249 := eq_true q249
                  go_wp2
                  repeat (go_quiet (fail); try go_wp2)
                  go_ret
                  exact ⟨by first | rfl | (simp [errW_none, errW_some] <;> rfl) | (simp [*, errW_none, errW_some] <;> rfl), by repeat (first | (with_reducible first | exact HB.out | apply below_alloc | apply pw_below_drewN | apply below_drew1 | refine below_set ?_ GE246.out | refine below_set ?_ GE247.out) | exact HB.out)⟩
              · rw [if_neg c44] at H
                have c44b0 : (((rd_T23 l0_1 x44_2).f0) == ((rd_T23 l1_1 x44_2).f0)) = false := beq_eq_false_iff_ne.mpr c44
                have c44b1 : (((rd_T23 l0_1 x44_2).f0) != ((rd_T23 l1_1 x44_2).f0)) = true := bne_iff_ne.mpr c44
                obtain rfl := Option.some.inj H
                have hnb52 := NB246_247.out
                have hnc52 := NB247_246.out
                have hcz53_0 : wr.cell? ⟨gb246, 0, none⟩ = some (.string a0_0) := (blk_cell BK246.out 0).trans rfl
                have hcz53_1 : wr.cell? ⟨gb246, 1, none⟩ = some (.slice A0_1 l0_1.length c0_1) := (blk_cell BK246.out 1).trans rfl
                have hcz53_2 : wr.cell? ⟨gb246, 2, none⟩ = some (.int .i64 a0_2) := (blk_cell BK246.out 2).trans rfl
                have hcz53_3 : wr.cell? ⟨gb246, 3, none⟩ = some (.int .i64 a0_3) := (blk_cell BK246.out 3).trans rfl
                have hcz53_4 : wr.cell? ⟨gb246, 4, none⟩ = some (.int .i64 a0_4) := (blk_cell BK246.out 4).trans rfl
                have hcz53_5 : wr.cell? ⟨gb246, 5, none⟩ = some (.int .i64 a0_5) := (blk_cell BK246.out 5).trans rfl
                have hcz53_6 : wr.cell? ⟨gb246, 6, none⟩ = some (.int .i64 a0_6) := (blk_cell BK246.out 6).trans rfl
                have hcz53_7 : wr.cell? ⟨gb246, 7, none⟩ = some (.int .i64 a0_7) := (blk_cell BK246.out 7).trans rfl
                have hcz53_8 : wr.cell? ⟨gb246, 8, none⟩ = some (.slice A0_8 l0_8.length c0_8) := (blk_cell BK246.out 8).trans rfl
                have hfz53_0 := blk_frozen BK246.out 0
                have hfz53_1 := blk_frozen BK246.out 1
                have hfz53_2 := blk_frozen BK246.out 2
                have hfz53_3 := blk_frozen BK246.out 3
                have hfz53_4 := blk_frozen BK246.out 4
                have hfz53_5 := blk_frozen BK246.out 5
                have hfz53_6 := blk_frozen BK246.out 6
                have hfz53_7 := blk_frozen BK246.out 7
                have hfz53_8 := blk_frozen BK246.out 8
                have p248 : 0 ≤ (x44_2 : Int) := of_decide_eq_true (by first | (with_reducible assumption) | assumption)
                have q248 : x44_2 < (l0_1.length : Int) := of_decide_eq_true (by first | (with_reducible assumption) | assumption)
                obtain ⟨ad248, e248, hx248_0, hx248_1⟩ := at_T23 HR0_1.out x44_2 p248 q248
                cases e248
                replace hx248_0 := (HB.out.cell (World.block_lt_of_cell? w _ hx248_0)).trans hx248_0
                replace hx248_1 := (HB.out.cell (World.block_lt_of_cell? w _ hx248_1)).trans hx248_1
                replace p248 := eq_true p248
                replace q248 := eq_true q248
                have hcz54_0 : wr.cell? ⟨gb247, 0, none⟩ = some (.string a1_0) := (blk_cell BK247.out 0).trans rfl
                have hcz54_1 : wr.cell? ⟨gb247, 1, none⟩ = some (.slice A1_1 l1_1.length c1_1) := (blk_cell BK247.out 1).trans rfl
                have hcz54_2 : wr.cell? ⟨gb247, 2, none⟩ = some (.int .i64 a1_2) := (blk_cell BK247.out 2).trans rfl
                have hcz54_3 : wr.cell? ⟨gb247, 3, none⟩ = some (.int .i64 a1_3) := (blk_cell BK247.out 3).trans rfl
                have hcz54_4 : wr.cell? ⟨gb247, 4, none⟩ = some (.int .i64 a1_4) := (blk_cell BK247.out 4).trans rfl
                have hcz54_5 : wr.cell? ⟨gb247, 5, none⟩ = some (.int .i64 a1_5) := (blk_cell BK247.out 5).trans rfl
                have hcz54_6 : wr.cell? ⟨gb247, 6, none⟩ = some (.int .i64 a1_6) := (blk_cell BK247.out 6).trans rfl
                have hcz54_7 : wr.cell? ⟨gb247, 7, none⟩ = some (.int .i64 a1_7) := (blk_cell BK247.out 7).trans rfl
                have hcz54_8 : wr.cell? ⟨gb247, 8, none⟩ = some (.slice A1_8 l1_8.length c1_8) := (blk_cell BK247.out 8).trans rfl
                have hfz54_0 := blk_frozen BK247.out 0
                have hfz54_1 := blk_frozen BK247.out 1
                have hfz54_2 := blk_frozen BK247.out 2
                have hfz54_3 := blk_frozen BK247.out 3
                have hfz54_4 := blk_frozen BK247.out 4
                have hfz54_5 := blk_frozen BK247.out 5
                have hfz54_6 := blk_frozen BK247.out 6
                have hfz54_7 := blk_frozen BK247.out 7
                have hfz54_8 := blk_frozen BK247.out 8
                have p249 : 0 ≤ (x44_2 : Int) := of_decide_eq_true (by first | (with_reducible assumption) | assumption)
                have q249 : x44_2 < (l1_1.length : Int) := of_decide_eq_true (by first | (with_reducible assumption) | assumption)
                obtain ⟨ad249, e249, hx249_0, hx249_1⟩ := at_T23 HR1_1.out x44_2 p249 q249
                cases e249
                replace hx249_0 := (HB.out.cell (World.block_lt_of_cell? w _ hx249_0)).trans hx249_0
                replace hx249_1 := (HB.out.cell (World.block_lt_of_cell? w _ hx249_1)).trans hx249_1
                replace p249 := eq_true p249
                replace q249 := eq_true q249
                go_wp2
                repeat (go_quiet (fail); try go_wp2)
                go_ret
                exact ⟨by first | rfl | (simp [errW_none, errW_some] <;> rfl) | (simp [*, errW_none, errW_some] <;> rfl), by repeat (first | (with_reducible first | exact HB.out | apply below_alloc | apply pw_below_drewN | apply below_drew1 | refine below_set ?_ GE246.out | refine below_set ?_ GE247.out) | exact HB.out)⟩
            · rw [if_neg c40] at H
              have c40b0 : decide (x44_2 < (l0_1.length : Int)) = false := decide_eq_false c40
              clear c40
              replace H := Option.bind_eq_some_iff.mp H
              obtain ⟨t250, A550, H⟩ := H
              replace H : (some t250) = some r := H
              have A55 := Aside0.mk A550
              clear A550
              obtain rfl := Option.some.inj H
              have hnb56 := NB246_247.out
              have hnc56 := NB247_246.out
              have hcz57_0 : wr.cell? ⟨gb246, 0, none⟩ = some (.string a0_0) := (blk_cell BK246.out 0).trans rfl
              have hcz57_1 : wr.cell? ⟨gb246, 1, none⟩ = some (.slice A0_1 l0_1.length c0_1) := (blk_cell BK246.out 1).trans rfl
              have hcz57_2 : wr.cell? ⟨gb246, 2, none⟩ = some (.int .i64 a0_2) := (blk_cell BK246.out 2).trans rfl
              have hcz57_3 : wr.cell? ⟨gb246, 3, none⟩ = some (.int .i64 a0_3) := (blk_cell BK246.out 3).trans rfl
              have hcz57_4 : wr.cell? ⟨gb246, 4, none⟩ = some (.int .i64 a0_4) := (blk_cell BK246.out 4).trans rfl
              have hcz57_5 : wr.cell? ⟨gb246, 5, none⟩ = some (.int .i64 a0_5) := (blk_cell BK246.out 5).trans rfl
              have hcz57_6 : wr.cell? ⟨gb246, 6, none⟩ = some (.int .i64 a0_6) := (blk_cell BK246.out 6).trans rfl
              have hcz57_7 : wr.cell? ⟨gb246, 7, none⟩ = some (.int .i64 a0_7) := (blk_cell BK246.out 7).trans rfl
              have hcz57_8 : wr.cell? ⟨gb246, 8, none⟩ = some (.slice A0_8 l0_8.length c0_8) := (blk_cell BK246.out 8).trans rfl
              have hfz57_0 := blk_frozen BK246.out 0
              have hfz57_1 := blk_frozen BK246.out 1
              have hfz57_2 := blk_frozen BK246.out 2
              have hfz57_3 := blk_frozen BK246.out 3
              have hfz57_4 := blk_frozen BK246.out 4
              have hfz57_5 := blk_frozen BK246.out 5
              have hfz57_6 := blk_frozen BK246.out 6
              have hfz57_7 := blk_frozen BK246.out 7
              have hfz57_8 := blk_frozen BK246.out 8
              have hcz58_0 : wr.cell? ⟨gb247, 0, none⟩ = some (.string a1_0) := (blk_cell BK247.out 0).trans rfl
              have hcz58_1 : wr.cell? ⟨gb247, 1, none⟩ = some (.slice A1_1 l1_1.length c1_1) := (blk_cell BK247.out 1).trans rfl
              have hcz58_2 : wr.cell? ⟨gb247, 2, none⟩ = some (.int .i64 a1_2) := (blk_cell BK247.out 2).trans rfl
              have hcz58_3 : wr.cell? ⟨gb247, 3, none⟩ = some (.int .i64 a1_3) := (blk_cell BK247.out 3).trans rfl
              have hcz58_4 : wr.cell? ⟨gb247, 4, none⟩ = some (.int .i64 a1_4) := (blk_cell BK247.out 4).trans rfl
              have hcz58_5 : wr.cell? ⟨gb247, 5, none⟩ = some (.int .i64 a1_5) := (blk_cell BK247.out 5).trans rfl
              have hcz58_6 : wr.cell? ⟨gb247, 6, none⟩ = some (.int .i64 a1_6) := (blk_cell BK247.out 6).trans rfl
              have hcz58_7 : wr.cell? ⟨gb247, 7, none⟩ = some (.int .i64 a1_7) := (blk_cell BK247.out 7).trans rfl
              have hcz58_8 : wr.cell? ⟨gb247, 8, none⟩ = some (.slice A1_8 l1_8.length c1_8) := (blk_cell BK247.out 8).trans rfl
              have hfz58_0 := blk_frozen BK247.out 0
              have hfz58_1 := blk_frozen BK247.out 1
              have hfz58_2 := blk_frozen BK247.out 2
              have hfz58_3 := blk_frozen BK247.out 3
              have hfz58_4 := blk_frozen BK247.out 4
              have hfz58_5 := blk_frozen BK247.out 5
              have hfz58_6 := blk_frozen BK247.out 6
              have hfz58_7 := blk_frozen BK247.out 7
              have hfz58_8 := blk_frozen BK247.out 8
              go_wp2_with (first | (go_at_call 30; (with_reducible refine (manometerref18_Words.calls k2 _ _ l0_8 _ _ l1_8 t250 _ ?side1 ?side2 ?side3 ?side4 A55.out).mono ?_); (case side1 => repeat (first | exact (Kd.C_below HR0_8.out HB.out) | (with_reducible refine Kd.C_alloc ?_ _) | (with_reducible refine Kd.C_drewN ?_ _) | (with_reducible refine Kd.C_drew ?_))); (case side2 => exact HC0_8.out); (case side3 => repeat (first | exact (Kd.C_below HR1_8.out HB.out) | (with_reducible refine Kd.C_alloc ?_ _) | (with_reducible refine Kd.C_drewN ?_ _) | (with_reducible refine Kd.C_drew ?_))); (case side4 => exact HC1_8.out); rintro e w' ⟨rfl, ⟨nd, rfl⟩⟩; (try first | exact ⟨rfl, _, World.drewN_drewN _ _ _⟩ | exact ⟨rfl, _, Eq.trans (World.drewN_drewN _ _ _) (congrArg (World.drewN _) (Nat.add_assoc _ _ _))⟩)))
              repeat (go_quiet (first | (go_at_call 30; (with_reducible refine (manometerref18_Words.calls k2 _ _ l0_8 _ _ l1_8 t250 _ ?side1 ?side2 ?side3 ?side4 A55.out).mono ?_); (case side1 => repeat (first | exact (Kd.C_below HR0_8.out HB.out) | (with_reducible refine Kd.C_alloc ?_ _) | (with_reducible refine Kd.C_drewN ?_ _) | (with_reducible refine Kd.C_drew ?_))); (case side2 => exact HC0_8.out); (case side3 => repeat (first | exact (Kd.C_below HR1_8.out HB.out) | (with_reducible refine Kd.C_alloc ?_ _) | (with_reducible refine Kd.C_drewN ?_ _) | (with_reducible refine Kd.C_drew ?_))); (case side4 => exact HC1_8.out); rintro e w' ⟨rfl, ⟨nd, rfl⟩⟩; (try first | exact ⟨rfl, _, World.drewN_drewN _ _ _⟩ | exact ⟨rfl, _, Eq.trans (World.drewN_drewN _ _ _) (congrArg (World.drewN _) (Nat.add_assoc _ _ _))⟩))); try go_wp2_with (first | (go_at_call 30; (with_reducible refine (manometerref18_Words.calls k2 _ _ l0_8 _ _ l1_8 t250 _ ?side1 ?side2 ?side3 ?side4 A55.out).mono ?_); (case side1 => repeat (first | exact (Kd.C_below HR0_8.out HB.out) | (with_reducible refine Kd.C_alloc ?_ _) | (with_reducible refine Kd.C_drewN ?_ _) | (with_reducible refine Kd.C_drew ?_))); (case side2 => exact HC0_8.out); (case side3 => repeat (first | exact (Kd.C_below HR1_8.out HB.out) | (with_reducible refine Kd.C_alloc ?_ _) | (with_reducible refine Kd.C_drewN ?_ _) | (with_reducible refine Kd.C_drew ?_))); (case side4 => exact HC1_8.out); rintro e w' ⟨rfl, ⟨nd, rfl⟩⟩; (try first | exact ⟨rfl, _, World.drewN_drewN _ _ _⟩ | exact ⟨rfl, _, Eq.trans (World.drewN_drewN _ _ _) (congrArg (World.drewN _) (Nat.add_assoc _ _ _))⟩))))
              go_ret
              exact ⟨by first | rfl | (simp [errW_none, errW_some] <;> rfl) | (simp [*, errW_none, errW_some] <;> rfl), by repeat (first | (with_reducible first | exact HB.out | apply below_alloc | apply pw_below_drewN | apply below_drew1 | refine below_set ?_ GE246.out | refine below_set ?_ GE247.out) | exact HB.out)⟩
end Go.Proofs.Yticoaaddhhiglaa.Q
