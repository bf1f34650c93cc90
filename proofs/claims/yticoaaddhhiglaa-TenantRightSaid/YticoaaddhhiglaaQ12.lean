-- Laid by this session's turned edition of print.py out of the translation. Not trusted: Lean checks it.
import Derived.Test.YticoaaddhhiglaaQ0
import Derived.Test.YticoaaddhhiglaaQ11
namespace Go.Proofs.Yticoaaddhhiglaa.Q
open Go.RowKit Go.Proofs.YticoaaddhhiglaaW.PrintWords Go.Proofs.YticoaaddhhiglaaW.PrintLast Go.Proofs.YticoaaddhhiglaaW.PrintMore
attribute [local go_sem] max2_int min2_int max_two min_two max_three min_three max_four min_four   -- for this text's walks alone
set_option linter.unusedVariables false
set_option linter.unusedSimpArgs false

/-! ### manometerref18_Right: function 12 -/
mutual
def manometerref18_Right.j0 : Nat → Bool → Int → ByteArray → Int → ByteArray → Int → Int → Int → Int → Int → Int → ByteArray → Option (Int)
  | 0, _, _, _, _, _, _, _, _, _, _, _, _ => none
  | k + 1, x10, x238000, x238001, x238002, x238003, x238004, x238005, x238006, x238007, x238008, x238009, x238010 => if x10 = true then (some 1) else ((manometerref18_Named.f k x238001).bind fun t238 => (if t238 = true then (if x238000 = 0 then ((manometerref18_key.f x238002 x238003).bind fun t239 => (manometerref18_Right.j1 k (!t239) x238000 x238001 x238002 x238003 x238004 x238005 x238006 x238007 x238008 x238009 x238010)) else (if x238000 = 1 then ((manometerref18_key.f x238002 x238003).bind fun t240 => (manometerref18_Right.j1 k (!t240) x238000 x238001 x238002 x238003 x238004 x238005 x238006 x238007 x238008 x238009 x238010)) else (manometerref18_Right.j1 k false x238000 x238001 x238002 x238003 x238004 x238005 x238006 x238007 x238008 x238009 x238010))) else (some 50)))
def manometerref18_Right.j1 : Nat → Bool → Int → ByteArray → Int → ByteArray → Int → Int → Int → Int → Int → Int → ByteArray → Option (Int)
  | 0, _, _, _, _, _, _, _, _, _, _, _, _ => none
  | k + 1, x15, x238000, x238001, x238002, x238003, x238004, x238005, x238006, x238007, x238008, x238009, x238010 => if x15 = true then (manometerref18_Right.j2 k x15 x238000 x238001 x238002 x238003 x238004 x238005 x238006 x238007 x238008 x238009 x238010) else (if x238000 = 2 then ((manometerref18_id.f x238002).bind fun t241 => (manometerref18_Right.j2 k (!t241) x238000 x238001 x238002 x238003 x238004 x238005 x238006 x238007 x238008 x238009 x238010)) else (manometerref18_Right.j2 k false x238000 x238001 x238002 x238003 x238004 x238005 x238006 x238007 x238008 x238009 x238010))
def manometerref18_Right.j2 : Nat → Bool → Int → ByteArray → Int → ByteArray → Int → Int → Int → Int → Int → Int → ByteArray → Option (Int)
  | 0, _, _, _, _, _, _, _, _, _, _, _, _ => none
  | k + 1, x15, x238000, x238001, x238002, x238003, x238004, x238005, x238006, x238007, x238008, x238009, x238010 => if x15 = true then (some 181) else (if x238000 = 0 then ((manometerref18_limits.f x238004 x238005 x238006 x238007).bind fun t242 => (manometerref18_Right.j3 k (!t242) x238000 x238001 x238002 x238003 x238004 x238005 x238006 x238007 x238008 x238009 x238010)) else (if x238000 = 3 then ((manometerref18_limits.f x238004 x238005 x238006 x238007).bind fun t243 => (manometerref18_Right.j3 k (!t243) x238000 x238001 x238002 x238003 x238004 x238005 x238006 x238007 x238008 x238009 x238010)) else (manometerref18_Right.j3 k false x238000 x238001 x238002 x238003 x238004 x238005 x238006 x238007 x238008 x238009 x238010)))
def manometerref18_Right.j3 : Nat → Bool → Int → ByteArray → Int → ByteArray → Int → Int → Int → Int → Int → Int → ByteArray → Option (Int)
  | 0, _, _, _, _, _, _, _, _, _, _, _, _ => none
  | k + 1, x40, x238000, x238001, x238002, x238003, x238004, x238005, x238006, x238007, x238008, x238009, x238010 => if x40 = true then (some 183) else (if x238000 = 0 then (if x238008 < 1 then (manometerref18_Right.j4 k true x238000 x238001 x238002 x238003 x238004 x238005 x238006 x238007 x238008 x238009 x238010) else (if x238008 > 64 then (manometerref18_Right.j4 k true x238000 x238001 x238002 x238003 x238004 x238005 x238006 x238007 x238008 x238009 x238010) else (if x238009 < 3 then (manometerref18_Right.j4 k true x238000 x238001 x238002 x238003 x238004 x238005 x238006 x238007 x238008 x238009 x238010) else (manometerref18_Right.j4 k (decide (x238009 > 16)) x238000 x238001 x238002 x238003 x238004 x238005 x238006 x238007 x238008 x238009 x238010)))) else (manometerref18_Right.j4 k false x238000 x238001 x238002 x238003 x238004 x238005 x238006 x238007 x238008 x238009 x238010))
def manometerref18_Right.j4 : Nat → Bool → Int → ByteArray → Int → ByteArray → Int → Int → Int → Int → Int → Int → ByteArray → Option (Int)
  | 0, _, _, _, _, _, _, _, _, _, _, _, _ => none
  | k + 1, x55, x238000, x238001, x238002, x238003, x238004, x238005, x238006, x238007, x238008, x238009, x238010 => if x55 = true then (some 183) else (if x238000 < 4 then (some 0) else ((manometerref18_Named.f k x238010).bind fun t244 => (if t244 = true then (if x238010.toList = x238001.toList then (some 182) else (some 0)) else (some 50))))
end
def manometerref18_Right.f (k : Nat) (a0_0 : Int) (a0_1 : ByteArray) (a0_2 : Int) (a0_3 : ByteArray) (a0_4 : Int) (a0_5 : Int) (a0_6 : Int) (a0_7 : Int) (a0_8 : Int) (a0_9 : Int) (a0_10 : ByteArray) : Option (Int) := if a0_0 < 0 then (manometerref18_Right.j0 k true a0_0 a0_1 a0_2 a0_3 a0_4 a0_5 a0_6 a0_7 a0_8 a0_9 a0_10) else (manometerref18_Right.j0 k (decide (a0_0 > 5)) a0_0 a0_1 a0_2 a0_3 a0_4 a0_5 a0_6 a0_7 a0_8 a0_9 a0_10)
theorem manometerref18_Right.mono_l : ∀ k, (∀ y0 y1 y2 y3 y4 y5 y6 y7 y8 y9 y10 y11, LeO (manometerref18_Right.j0 k y0 y1 y2 y3 y4 y5 y6 y7 y8 y9 y10 y11) (manometerref18_Right.j0 (k + 1) y0 y1 y2 y3 y4 y5 y6 y7 y8 y9 y10 y11)) ∧ (∀ y0 y1 y2 y3 y4 y5 y6 y7 y8 y9 y10 y11, LeO (manometerref18_Right.j1 k y0 y1 y2 y3 y4 y5 y6 y7 y8 y9 y10 y11) (manometerref18_Right.j1 (k + 1) y0 y1 y2 y3 y4 y5 y6 y7 y8 y9 y10 y11)) ∧ (∀ y0 y1 y2 y3 y4 y5 y6 y7 y8 y9 y10 y11, LeO (manometerref18_Right.j2 k y0 y1 y2 y3 y4 y5 y6 y7 y8 y9 y10 y11) (manometerref18_Right.j2 (k + 1) y0 y1 y2 y3 y4 y5 y6 y7 y8 y9 y10 y11)) ∧ (∀ y0 y1 y2 y3 y4 y5 y6 y7 y8 y9 y10 y11, LeO (manometerref18_Right.j3 k y0 y1 y2 y3 y4 y5 y6 y7 y8 y9 y10 y11) (manometerref18_Right.j3 (k + 1) y0 y1 y2 y3 y4 y5 y6 y7 y8 y9 y10 y11)) ∧ (∀ y0 y1 y2 y3 y4 y5 y6 y7 y8 y9 y10 y11, LeO (manometerref18_Right.j4 k y0 y1 y2 y3 y4 y5 y6 y7 y8 y9 y10 y11) (manometerref18_Right.j4 (k + 1) y0 y1 y2 y3 y4 y5 y6 y7 y8 y9 y10 y11))
  | 0 => ⟨fun _ _ _ _ _ _ _ _ _ _ _ _ r h => by simp [manometerref18_Right.j0] at h, fun _ _ _ _ _ _ _ _ _ _ _ _ r h => by simp [manometerref18_Right.j1] at h, fun _ _ _ _ _ _ _ _ _ _ _ _ r h => by simp [manometerref18_Right.j2] at h, fun _ _ _ _ _ _ _ _ _ _ _ _ r h => by simp [manometerref18_Right.j3] at h, fun _ _ _ _ _ _ _ _ _ _ _ _ r h => by simp [manometerref18_Right.j4] at h⟩
  | k + 1 => by
    obtain ⟨ih0, ih1, ih2, ih3, ih4⟩ := manometerref18_Right.mono_l k
    refine ⟨?_, ?_, ?_, ?_, ?_⟩
    · intro y0 y1 y2 y3 y4 y5 y6 y7 y8 y9 y10 y11
      unfold manometerref18_Right.j0
      repeat' first
      | (with_reducible exact ih0 _ _ _ _ _ _ _ _ _ _ _ _)
      | (with_reducible exact ih1 _ _ _ _ _ _ _ _ _ _ _ _)
      | (with_reducible exact ih2 _ _ _ _ _ _ _ _ _ _ _ _)
      | (with_reducible exact ih3 _ _ _ _ _ _ _ _ _ _ _ _)
      | (with_reducible exact ih4 _ _ _ _ _ _ _ _ _ _ _ _)
      | (with_reducible exact manometerref18_Named.mono _ _)
      | (with_reducible exact LeO.refl _)
      | (with_reducible exact LeO.none _)
      | (with_reducible refine LeO.ite ?_ ?_)
      | (with_reducible refine LeO.bind ?_ (fun _ => ?_))
      | exact ih0 _ _ _ _ _ _ _ _ _ _ _ _
      | exact ih1 _ _ _ _ _ _ _ _ _ _ _ _
      | exact ih2 _ _ _ _ _ _ _ _ _ _ _ _
      | exact ih3 _ _ _ _ _ _ _ _ _ _ _ _
      | exact ih4 _ _ _ _ _ _ _ _ _ _ _ _
      | exact manometerref18_Named.mono _ _
      | exact LeO.none _
      | refine LeO.ite ?_ ?_
      | refine LeO.bind ?_ (fun _ => ?_)
    · intro y0 y1 y2 y3 y4 y5 y6 y7 y8 y9 y10 y11
      unfold manometerref18_Right.j1
      repeat' first
      | (with_reducible exact ih0 _ _ _ _ _ _ _ _ _ _ _ _)
      | (with_reducible exact ih1 _ _ _ _ _ _ _ _ _ _ _ _)
      | (with_reducible exact ih2 _ _ _ _ _ _ _ _ _ _ _ _)
      | (with_reducible exact ih3 _ _ _ _ _ _ _ _ _ _ _ _)
      | (with_reducible exact ih4 _ _ _ _ _ _ _ _ _ _ _ _)
      | (with_reducible exact manometerref18_Named.mono _ _)
      | (with_reducible exact LeO.refl _)
      | (with_reducible exact LeO.none _)
      | (with_reducible refine LeO.ite ?_ ?_)
      | (with_reducible refine LeO.bind ?_ (fun _ => ?_))
      | exact ih0 _ _ _ _ _ _ _ _ _ _ _ _
      | exact ih1 _ _ _ _ _ _ _ _ _ _ _ _
      | exact ih2 _ _ _ _ _ _ _ _ _ _ _ _
      | exact ih3 _ _ _ _ _ _ _ _ _ _ _ _
      | exact ih4 _ _ _ _ _ _ _ _ _ _ _ _
      | exact manometerref18_Named.mono _ _
      | exact LeO.none _
      | refine LeO.ite ?_ ?_
      | refine LeO.bind ?_ (fun _ => ?_)
    · intro y0 y1 y2 y3 y4 y5 y6 y7 y8 y9 y10 y11
      unfold manometerref18_Right.j2
      repeat' first
      | (with_reducible exact ih0 _ _ _ _ _ _ _ _ _ _ _ _)
      | (with_reducible exact ih1 _ _ _ _ _ _ _ _ _ _ _ _)
      | (with_reducible exact ih2 _ _ _ _ _ _ _ _ _ _ _ _)
      | (with_reducible exact ih3 _ _ _ _ _ _ _ _ _ _ _ _)
      | (with_reducible exact ih4 _ _ _ _ _ _ _ _ _ _ _ _)
      | (with_reducible exact manometerref18_Named.mono _ _)
      | (with_reducible exact LeO.refl _)
      | (with_reducible exact LeO.none _)
      | (with_reducible refine LeO.ite ?_ ?_)
      | (with_reducible refine LeO.bind ?_ (fun _ => ?_))
      | exact ih0 _ _ _ _ _ _ _ _ _ _ _ _
      | exact ih1 _ _ _ _ _ _ _ _ _ _ _ _
      | exact ih2 _ _ _ _ _ _ _ _ _ _ _ _
      | exact ih3 _ _ _ _ _ _ _ _ _ _ _ _
      | exact ih4 _ _ _ _ _ _ _ _ _ _ _ _
      | exact manometerref18_Named.mono _ _
      | exact LeO.none _
      | refine LeO.ite ?_ ?_
      | refine LeO.bind ?_ (fun _ => ?_)
    · intro y0 y1 y2 y3 y4 y5 y6 y7 y8 y9 y10 y11
      unfold manometerref18_Right.j3
      repeat' first
      | (with_reducible exact ih0 _ _ _ _ _ _ _ _ _ _ _ _)
      | (with_reducible exact ih1 _ _ _ _ _ _ _ _ _ _ _ _)
      | (with_reducible exact ih2 _ _ _ _ _ _ _ _ _ _ _ _)
      | (with_reducible exact ih3 _ _ _ _ _ _ _ _ _ _ _ _)
      | (with_reducible exact ih4 _ _ _ _ _ _ _ _ _ _ _ _)
      | (with_reducible exact manometerref18_Named.mono _ _)
      | (with_reducible exact LeO.refl _)
      | (with_reducible exact LeO.none _)
      | (with_reducible refine LeO.ite ?_ ?_)
      | (with_reducible refine LeO.bind ?_ (fun _ => ?_))
      | exact ih0 _ _ _ _ _ _ _ _ _ _ _ _
      | exact ih1 _ _ _ _ _ _ _ _ _ _ _ _
      | exact ih2 _ _ _ _ _ _ _ _ _ _ _ _
      | exact ih3 _ _ _ _ _ _ _ _ _ _ _ _
      | exact ih4 _ _ _ _ _ _ _ _ _ _ _ _
      | exact manometerref18_Named.mono _ _
      | exact LeO.none _
      | refine LeO.ite ?_ ?_
      | refine LeO.bind ?_ (fun _ => ?_)
    · intro y0 y1 y2 y3 y4 y5 y6 y7 y8 y9 y10 y11
      unfold manometerref18_Right.j4
      repeat' first
      | (with_reducible exact ih0 _ _ _ _ _ _ _ _ _ _ _ _)
      | (with_reducible exact ih1 _ _ _ _ _ _ _ _ _ _ _ _)
      | (with_reducible exact ih2 _ _ _ _ _ _ _ _ _ _ _ _)
      | (with_reducible exact ih3 _ _ _ _ _ _ _ _ _ _ _ _)
      | (with_reducible exact ih4 _ _ _ _ _ _ _ _ _ _ _ _)
      | (with_reducible exact manometerref18_Named.mono _ _)
      | (with_reducible exact LeO.refl _)
      | (with_reducible exact LeO.none _)
      | (with_reducible refine LeO.ite ?_ ?_)
      | (with_reducible refine LeO.bind ?_ (fun _ => ?_))
      | exact ih0 _ _ _ _ _ _ _ _ _ _ _ _
      | exact ih1 _ _ _ _ _ _ _ _ _ _ _ _
      | exact ih2 _ _ _ _ _ _ _ _ _ _ _ _
      | exact ih3 _ _ _ _ _ _ _ _ _ _ _ _
      | exact ih4 _ _ _ _ _ _ _ _ _ _ _ _
      | exact manometerref18_Named.mono _ _
      | exact LeO.none _
      | refine LeO.ite ?_ ?_
      | refine LeO.bind ?_ (fun _ => ?_)
theorem manometerref18_Right.mono : ∀ a0 a1 a2 a3 a4 a5 a6 a7 a8 a9 a10 k, LeO (manometerref18_Right.f k a0 a1 a2 a3 a4 a5 a6 a7 a8 a9 a10) (manometerref18_Right.f (k + 1) a0 a1 a2 a3 a4 a5 a6 a7 a8 a9 a10) := by
  intro a0 a1 a2 a3 a4 a5 a6 a7 a8 a9 a10 k
  obtain ⟨ih0, ih1, ih2, ih3, ih4⟩ := manometerref18_Right.mono_l k
  unfold manometerref18_Right.f
  repeat' first
      | (with_reducible exact ih0 _ _ _ _ _ _ _ _ _ _ _ _)
      | (with_reducible exact ih1 _ _ _ _ _ _ _ _ _ _ _ _)
      | (with_reducible exact ih2 _ _ _ _ _ _ _ _ _ _ _ _)
      | (with_reducible exact ih3 _ _ _ _ _ _ _ _ _ _ _ _)
      | (with_reducible exact ih4 _ _ _ _ _ _ _ _ _ _ _ _)
      | (with_reducible exact manometerref18_Named.mono _ _)
      | (with_reducible exact LeO.refl _)
      | (with_reducible exact LeO.none _)
      | (with_reducible refine LeO.ite ?_ ?_)
      | (with_reducible refine LeO.bind ?_ (fun _ => ?_))
      | exact ih0 _ _ _ _ _ _ _ _ _ _ _ _
      | exact ih1 _ _ _ _ _ _ _ _ _ _ _ _
      | exact ih2 _ _ _ _ _ _ _ _ _ _ _ _
      | exact ih3 _ _ _ _ _ _ _ _ _ _ _ _
      | exact ih4 _ _ _ _ _ _ _ _ _ _ _ _
      | exact manometerref18_Named.mono _ _
      | exact LeO.none _
      | refine LeO.ite ?_ ?_
      | refine LeO.bind ?_ (fun _ => ?_)
set_option maxHeartbeats 8000000 in
set_option maxRecDepth 100000 in
theorem manometerref18_Right.calls (k : Nat) (a0_0 : Int) (a0_1 : ByteArray) (a0_2 : Int) (a0_3 : ByteArray) (a0_4 : Int) (a0_5 : Int) (a0_6 : Int) (a0_7 : Int) (a0_8 : Int) (a0_9 : Int) (a0_10 : ByteArray) (r : Int) (w : World) (h : manometerref18_Right.f k a0_0 a0_1 a0_2 a0_3 a0_4 a0_5 a0_6 a0_7 a0_8 a0_9 a0_10 = some r) :
    Calls Try.prog 12 #[.agg #[.int .i64 a0_0, .string a0_1, .int .i64 a0_2, .string a0_3, .int .i64 a0_4, .int .i64 a0_5, .int .i64 a0_6, .int .i64 a0_7, .int .i64 a0_8, .int .i64 a0_9, .string a0_10]] w fun e w' => e = .returned (.int .i64 r) ∧ Below w.heap.size w w' := by
  have hu27 := Try.underlying27
  have hu23 := Try.underlying23
  have hu25 := Try.underlying25
  have HB := Aside0.mk (Below.refl w.heap.size w)
  have H : (if a0_0 < 0 then (manometerref18_Right.j0 k true a0_0 a0_1 a0_2 a0_3 a0_4 a0_5 a0_6 a0_7 a0_8 a0_9 a0_10) else (manometerref18_Right.j0 k (decide (a0_0 > 5)) a0_0 a0_1 a0_2 a0_3 a0_4 a0_5 a0_6 a0_7 a0_8 a0_9 a0_10)) = some r := h
  clear h
  have HC2 := Aside0.mk H
  clear H
  go_enter Try.func12, Try.ntmps12
  go_upto_region 1 with (first | ((with_reducible refine gate_dst (N := 1) rfl ?_); refine box_event ?hg (N := 1) ?hd (cs := #[.int .i64 a0_0, .string a0_1, .int .i64 a0_2, .string a0_3, .int .i64 a0_4, .int .i64 a0_5, .int .i64 a0_6, .int .i64 a0_7, .int .i64 a0_8, .int .i64 a0_9, .string a0_10]) (t := 27) ?hr ?_; (case hd => rfl); (case hg => rfl); (case hr => first | (go_simp; done) | (go_simp; rfl)); intro gb237 hg w3 hbox hb; have n0_ := Aside0.mk (below_step (by repeat (first | (with_reducible first | exact HB.out | apply below_alloc | apply pw_below_drewN | apply below_drew1) | exact HB.out)) hb); have n1_ := Aside0.mk (hbox); have n2_ := Aside0.mk ((by rw [hg]; exact (below_size (by repeat (first | (with_reducible first | exact HB.out | apply below_alloc | apply pw_below_drewN | apply below_drew1) | exact HB.out))) : w.heap.size ≤ gb237)); have n3_ := Aside0.mk ((by rw [hg]; exact (below_size (by repeat (first | (with_reducible first | exact HB.out | apply below_alloc | apply pw_below_drewN | apply below_drew1) | exact HB.out))) : w.heap.size ≤ gb237)); clear HB; have HB := n0_; have BK237 := n1_; have GW237 := n2_; have GE237 := n3_; clear n0_ n1_ n2_ n3_; clear hb hbox hg))
  (try simp only [Act.put, List.setIfInBounds_toArray, List.set_cons_zero, List.set_cons_succ])
  go_cut [10] (fun v10 wc => ∃ (kq : Nat) (x10_1 : Bool), v10 = .bool x10_1 ∧ Aside0 (manometerref18_Right.j0 kq x10_1 a0_0 a0_1 a0_2 a0_3 a0_4 a0_5 a0_6 a0_7 a0_8 a0_9 a0_10 = some r) ∧ Aside0 (kq ≤ k) ∧ Aside0 (wc.heap[gb237]? = some (.cells #[.int .i64 a0_0, .string a0_1, .int .i64 a0_2, .string a0_3, .int .i64 a0_4, .int .i64 a0_5, .int .i64 a0_6, .int .i64 a0_7, .int .i64 a0_8, .int .i64 a0_9, .string a0_10] 27 (0, 0))) ∧ Aside0 (Below w.heap.size w wc))
  case first =>
    have H := HC2.out
    clear HC2
    by_cases c4 : a0_0 < 0
    · rw [if_pos c4] at H
      have c4b0 : decide (a0_0 < 0) = true := decide_eq_true c4
      clear c4
      (first | rw [c4b0] | (simp only [i64_w, i32_w, xu32_w, xu8_w]; rw [c4b0]) | skip)
      have H' := Aside0.mk H
      clear H
      have hcz5_0 : w3.cell? ⟨gb237, 0, none⟩ = some (.int .i64 a0_0) := (blk_cell BK237.out 0).trans rfl
      have hcz5_1 : w3.cell? ⟨gb237, 1, none⟩ = some (.string a0_1) := (blk_cell BK237.out 1).trans rfl
      have hcz5_2 : w3.cell? ⟨gb237, 2, none⟩ = some (.int .i64 a0_2) := (blk_cell BK237.out 2).trans rfl
      have hcz5_3 : w3.cell? ⟨gb237, 3, none⟩ = some (.string a0_3) := (blk_cell BK237.out 3).trans rfl
      have hcz5_4 : w3.cell? ⟨gb237, 4, none⟩ = some (.int .i64 a0_4) := (blk_cell BK237.out 4).trans rfl
      have hcz5_5 : w3.cell? ⟨gb237, 5, none⟩ = some (.int .i64 a0_5) := (blk_cell BK237.out 5).trans rfl
      have hcz5_6 : w3.cell? ⟨gb237, 6, none⟩ = some (.int .i64 a0_6) := (blk_cell BK237.out 6).trans rfl
      have hcz5_7 : w3.cell? ⟨gb237, 7, none⟩ = some (.int .i64 a0_7) := (blk_cell BK237.out 7).trans rfl
      have hcz5_8 : w3.cell? ⟨gb237, 8, none⟩ = some (.int .i64 a0_8) := (blk_cell BK237.out 8).trans rfl
      have hcz5_9 : w3.cell? ⟨gb237, 9, none⟩ = some (.int .i64 a0_9) := (blk_cell BK237.out 9).trans rfl
      have hcz5_10 : w3.cell? ⟨gb237, 10, none⟩ = some (.string a0_10) := (blk_cell BK237.out 10).trans rfl
      have hfz5_0 := blk_frozen BK237.out 0
      have hfz5_1 := blk_frozen BK237.out 1
      have hfz5_2 := blk_frozen BK237.out 2
      have hfz5_3 := blk_frozen BK237.out 3
      have hfz5_4 := blk_frozen BK237.out 4
      have hfz5_5 := blk_frozen BK237.out 5
      have hfz5_6 := blk_frozen BK237.out 6
      have hfz5_7 := blk_frozen BK237.out 7
      have hfz5_8 := blk_frozen BK237.out 8
      have hfz5_9 := blk_frozen BK237.out 9
      have hfz5_10 := blk_frozen BK237.out 10
      go_wp2
      go_meet
      case rel => exact ⟨_, (true), (by first | rfl | (simp; done) | (simp [*]; done)), H', ⟨by first | omega | exact Nat.le_refl _⟩, ⟨by (with_reducible repeat (first | refine blk_drewN ?_ _ | refine blk_drew ?_ | refine blk_alloc ?_ _)); exact BK237.out⟩, ⟨by repeat (first | (with_reducible first | exact HB.out | apply below_alloc | apply pw_below_drewN | apply below_drew1 | refine below_set ?_ GE237.out) | exact HB.out)⟩⟩
    · rw [if_neg c4] at H
      have c4b0 : decide (a0_0 < 0) = false := decide_eq_false c4
      clear c4
      (first | rw [c4b0] | (simp only [i64_w, i32_w, xu32_w, xu8_w]; rw [c4b0]) | skip)
      have H' := Aside0.mk H
      clear H
      have hcz6_0 : w3.cell? ⟨gb237, 0, none⟩ = some (.int .i64 a0_0) := (blk_cell BK237.out 0).trans rfl
      have hcz6_1 : w3.cell? ⟨gb237, 1, none⟩ = some (.string a0_1) := (blk_cell BK237.out 1).trans rfl
      have hcz6_2 : w3.cell? ⟨gb237, 2, none⟩ = some (.int .i64 a0_2) := (blk_cell BK237.out 2).trans rfl
      have hcz6_3 : w3.cell? ⟨gb237, 3, none⟩ = some (.string a0_3) := (blk_cell BK237.out 3).trans rfl
      have hcz6_4 : w3.cell? ⟨gb237, 4, none⟩ = some (.int .i64 a0_4) := (blk_cell BK237.out 4).trans rfl
      have hcz6_5 : w3.cell? ⟨gb237, 5, none⟩ = some (.int .i64 a0_5) := (blk_cell BK237.out 5).trans rfl
      have hcz6_6 : w3.cell? ⟨gb237, 6, none⟩ = some (.int .i64 a0_6) := (blk_cell BK237.out 6).trans rfl
      have hcz6_7 : w3.cell? ⟨gb237, 7, none⟩ = some (.int .i64 a0_7) := (blk_cell BK237.out 7).trans rfl
      have hcz6_8 : w3.cell? ⟨gb237, 8, none⟩ = some (.int .i64 a0_8) := (blk_cell BK237.out 8).trans rfl
      have hcz6_9 : w3.cell? ⟨gb237, 9, none⟩ = some (.int .i64 a0_9) := (blk_cell BK237.out 9).trans rfl
      have hcz6_10 : w3.cell? ⟨gb237, 10, none⟩ = some (.string a0_10) := (blk_cell BK237.out 10).trans rfl
      have hfz6_0 := blk_frozen BK237.out 0
      have hfz6_1 := blk_frozen BK237.out 1
      have hfz6_2 := blk_frozen BK237.out 2
      have hfz6_3 := blk_frozen BK237.out 3
      have hfz6_4 := blk_frozen BK237.out 4
      have hfz6_5 := blk_frozen BK237.out 5
      have hfz6_6 := blk_frozen BK237.out 6
      have hfz6_7 := blk_frozen BK237.out 7
      have hfz6_8 := blk_frozen BK237.out 8
      have hfz6_9 := blk_frozen BK237.out 9
      have hfz6_10 := blk_frozen BK237.out 10
      go_wp2
      go_meet
      case rel => exact ⟨_, (decide (a0_0 > 5)), (by first | rfl | (simp; done) | (simp [*]; done)), H', ⟨by first | omega | exact Nat.le_refl _⟩, ⟨by (with_reducible repeat (first | refine blk_drewN ?_ _ | refine blk_drew ?_ | refine blk_alloc ?_ _)); exact BK237.out⟩, ⟨by repeat (first | (with_reducible first | exact HB.out | apply below_alloc | apply pw_below_drewN | apply below_drew1 | refine below_set ?_ GE237.out) | exact HB.out)⟩⟩
  case rest =>
    clear HC2
    try clear c1
    try clear p2
    try clear c4
    try clear c4b0
    try clear hcz5_0
    try clear hcz5_1
    try clear hcz5_10
    try clear hcz5_2
    try clear hcz5_3
    try clear hcz5_4
    try clear hcz5_5
    try clear hcz5_6
    try clear hcz5_7
    try clear hcz5_8
    try clear hcz5_9
    try clear hcz6_0
    try clear hcz6_1
    try clear hcz6_10
    try clear hcz6_2
    try clear hcz6_3
    try clear hcz6_4
    try clear hcz6_5
    try clear hcz6_6
    try clear hcz6_7
    try clear hcz6_8
    try clear hcz6_9
    try clear hfz5_0
    try clear hfz5_1
    try clear hfz5_10
    try clear hfz5_2
    try clear hfz5_3
    try clear hfz5_4
    try clear hfz5_5
    try clear hfz5_6
    try clear hfz5_7
    try clear hfz5_8
    try clear hfz5_9
    try clear hfz6_0
    try clear hfz6_1
    try clear hfz6_10
    try clear hfz6_2
    try clear hfz6_3
    try clear hfz6_4
    try clear hfz6_5
    try clear hfz6_6
    try clear hfz6_7
    try clear hfz6_8
    try clear hfz6_9
    obtain ⟨kq, x10_1, rfl, HA, HJ1, BK237, HB⟩ := hcut
    cases kq with
    | zero => exact absurd HA.out (by simp [manometerref18_Right.j0])
    | succ kj1 =>
      have H := HA.out
      clear HA
      simp only [manometerref18_Right.j0] at H
      by_cases c7 : x10_1 = true
      · subst c7
        have H1 : (some 1) = some r := by rw [if_pos rfl] at H; exact H
        clear H
        have H := H1
        clear H1
        obtain rfl := Option.some.inj H
        go_wp2
        go_ret
        exact ⟨by first | rfl | (simp [errW_none, errW_some] <;> rfl) | (simp [*, errW_none, errW_some] <;> rfl), by repeat (first | (with_reducible first | exact HB.out | apply below_alloc | apply pw_below_drewN | apply below_drew1 | refine below_set ?_ GE237.out) | exact HB.out)⟩
      · replace c7 := Bool.eq_false_iff.mpr c7
        subst c7
        have H1 : ((manometerref18_Named.f kj1 a0_1).bind fun t238 => (if t238 = true then (if a0_0 = 0 then ((manometerref18_key.f a0_2 a0_3).bind fun t239 => (manometerref18_Right.j1 kj1 (!t239) a0_0 a0_1 a0_2 a0_3 a0_4 a0_5 a0_6 a0_7 a0_8 a0_9 a0_10)) else (if a0_0 = 1 then ((manometerref18_key.f a0_2 a0_3).bind fun t240 => (manometerref18_Right.j1 kj1 (!t240) a0_0 a0_1 a0_2 a0_3 a0_4 a0_5 a0_6 a0_7 a0_8 a0_9 a0_10)) else (manometerref18_Right.j1 kj1 false a0_0 a0_1 a0_2 a0_3 a0_4 a0_5 a0_6 a0_7 a0_8 a0_9 a0_10))) else (some 50))) = some r := by rw [if_neg (show ¬ (false = true) by decide)] at H; exact H
        clear H
        have H := H1
        clear H1
        replace H := Option.bind_eq_some_iff.mp H
        obtain ⟨t238, A80, H⟩ := H
        replace H : (if t238 = true then (if a0_0 = 0 then ((manometerref18_key.f a0_2 a0_3).bind fun t239 => (manometerref18_Right.j1 kj1 (!t239) a0_0 a0_1 a0_2 a0_3 a0_4 a0_5 a0_6 a0_7 a0_8 a0_9 a0_10)) else (if a0_0 = 1 then ((manometerref18_key.f a0_2 a0_3).bind fun t240 => (manometerref18_Right.j1 kj1 (!t240) a0_0 a0_1 a0_2 a0_3 a0_4 a0_5 a0_6 a0_7 a0_8 a0_9 a0_10)) else (manometerref18_Right.j1 kj1 false a0_0 a0_1 a0_2 a0_3 a0_4 a0_5 a0_6 a0_7 a0_8 a0_9 a0_10))) else (some 50)) = some r := H
        have A8 := Aside0.mk A80
        clear A80
        by_cases c9 : t238 = true
        · subst c9
          have H1 : (if a0_0 = 0 then ((manometerref18_key.f a0_2 a0_3).bind fun t239 => (manometerref18_Right.j1 kj1 (!t239) a0_0 a0_1 a0_2 a0_3 a0_4 a0_5 a0_6 a0_7 a0_8 a0_9 a0_10)) else (if a0_0 = 1 then ((manometerref18_key.f a0_2 a0_3).bind fun t240 => (manometerref18_Right.j1 kj1 (!t240) a0_0 a0_1 a0_2 a0_3 a0_4 a0_5 a0_6 a0_7 a0_8 a0_9 a0_10)) else (manometerref18_Right.j1 kj1 false a0_0 a0_1 a0_2 a0_3 a0_4 a0_5 a0_6 a0_7 a0_8 a0_9 a0_10))) = some r := by rw [if_pos rfl] at H; exact H
          clear H
          have H := H1
          clear H1
          have HC10 := Aside0.mk H
          clear H
          have hcz11_0 : wc.cell? ⟨gb237, 0, none⟩ = some (.int .i64 a0_0) := (blk_cell BK237.out 0).trans rfl
          have hcz11_1 : wc.cell? ⟨gb237, 1, none⟩ = some (.string a0_1) := (blk_cell BK237.out 1).trans rfl
          have hcz11_2 : wc.cell? ⟨gb237, 2, none⟩ = some (.int .i64 a0_2) := (blk_cell BK237.out 2).trans rfl
          have hcz11_3 : wc.cell? ⟨gb237, 3, none⟩ = some (.string a0_3) := (blk_cell BK237.out 3).trans rfl
          have hcz11_4 : wc.cell? ⟨gb237, 4, none⟩ = some (.int .i64 a0_4) := (blk_cell BK237.out 4).trans rfl
          have hcz11_5 : wc.cell? ⟨gb237, 5, none⟩ = some (.int .i64 a0_5) := (blk_cell BK237.out 5).trans rfl
          have hcz11_6 : wc.cell? ⟨gb237, 6, none⟩ = some (.int .i64 a0_6) := (blk_cell BK237.out 6).trans rfl
          have hcz11_7 : wc.cell? ⟨gb237, 7, none⟩ = some (.int .i64 a0_7) := (blk_cell BK237.out 7).trans rfl
          have hcz11_8 : wc.cell? ⟨gb237, 8, none⟩ = some (.int .i64 a0_8) := (blk_cell BK237.out 8).trans rfl
          have hcz11_9 : wc.cell? ⟨gb237, 9, none⟩ = some (.int .i64 a0_9) := (blk_cell BK237.out 9).trans rfl
          have hcz11_10 : wc.cell? ⟨gb237, 10, none⟩ = some (.string a0_10) := (blk_cell BK237.out 10).trans rfl
          have hfz11_0 := blk_frozen BK237.out 0
          have hfz11_1 := blk_frozen BK237.out 1
          have hfz11_2 := blk_frozen BK237.out 2
          have hfz11_3 := blk_frozen BK237.out 3
          have hfz11_4 := blk_frozen BK237.out 4
          have hfz11_5 := blk_frozen BK237.out 5
          have hfz11_6 := blk_frozen BK237.out 6
          have hfz11_7 := blk_frozen BK237.out 7
          have hfz11_8 := blk_frozen BK237.out 8
          have hfz11_9 := blk_frozen BK237.out 9
          have hfz11_10 := blk_frozen BK237.out 10
          go_upto_region 5 with (first | ((with_reducible refine gate_callee (f := 34) rfl ?_); refine goesL_ (some 13) rfl rfl Try.func34 (by kernel_rfl) rfl #[.string a0_1] rfl (by (try simp only [List.map_toArray, List.map_cons, List.map_nil]); first | done | rfl | (simp only [List.length_drop, List.length_take]; rfl)) ?_; (with_reducible refine (manometerref18_Named.calls kj1 a0_1 true _ A8.out).mono ?_); rintro e w' ⟨rfl, ⟨nd, rfl⟩⟩; refine ⟨_, rfl, ?_⟩))
          (try simp only [Act.put, List.setIfInBounds_toArray, List.set_cons_zero, List.set_cons_succ])
          go_cut [15] (fun v15 wc => ∃ (kq : Nat) (x15_9 : Bool), v15 = .bool x15_9 ∧ Aside0 (manometerref18_Right.j1 kq x15_9 a0_0 a0_1 a0_2 a0_3 a0_4 a0_5 a0_6 a0_7 a0_8 a0_9 a0_10 = some r) ∧ Aside0 (kq ≤ kj1) ∧ Aside0 (wc.heap[gb237]? = some (.cells #[.int .i64 a0_0, .string a0_1, .int .i64 a0_2, .string a0_3, .int .i64 a0_4, .int .i64 a0_5, .int .i64 a0_6, .int .i64 a0_7, .int .i64 a0_8, .int .i64 a0_9, .string a0_10] 27 (0, 0))) ∧ Aside0 (Below w.heap.size w wc))
          case first =>
            have H := HC10.out
            clear HC10
            by_cases c12 : a0_0 = 0
            · rw [if_pos c12] at H
              have c12b0 : (a0_0 == 0) = true := beq_iff_eq.mpr c12
              have c12b1 : (a0_0 != 0) = false := bne_eq_false_iff_eq.mpr c12
              have EQc12 := Aside0.mk c12
              clear c12
              (first | rw [c12b0] | (simp only [i64_w, i32_w, xu32_w, xu8_w]; rw [c12b0]) | skip)
              replace H := Option.bind_eq_some_iff.mp H
              obtain ⟨t239, A130, H⟩ := H
              replace H : (manometerref18_Right.j1 kj1 (!t239) a0_0 a0_1 a0_2 a0_3 a0_4 a0_5 a0_6 a0_7 a0_8 a0_9 a0_10) = some r := H
              have A13 := Aside0.mk A130
              clear A130
              have H' := Aside0.mk H
              clear H
              have hcz14_0 : wc.cell? ⟨gb237, 0, none⟩ = some (.int .i64 a0_0) := (blk_cell BK237.out 0).trans rfl
              have hcz14_1 : wc.cell? ⟨gb237, 1, none⟩ = some (.string a0_1) := (blk_cell BK237.out 1).trans rfl
              have hcz14_2 : wc.cell? ⟨gb237, 2, none⟩ = some (.int .i64 a0_2) := (blk_cell BK237.out 2).trans rfl
              have hcz14_3 : wc.cell? ⟨gb237, 3, none⟩ = some (.string a0_3) := (blk_cell BK237.out 3).trans rfl
              have hcz14_4 : wc.cell? ⟨gb237, 4, none⟩ = some (.int .i64 a0_4) := (blk_cell BK237.out 4).trans rfl
              have hcz14_5 : wc.cell? ⟨gb237, 5, none⟩ = some (.int .i64 a0_5) := (blk_cell BK237.out 5).trans rfl
              have hcz14_6 : wc.cell? ⟨gb237, 6, none⟩ = some (.int .i64 a0_6) := (blk_cell BK237.out 6).trans rfl
              have hcz14_7 : wc.cell? ⟨gb237, 7, none⟩ = some (.int .i64 a0_7) := (blk_cell BK237.out 7).trans rfl
              have hcz14_8 : wc.cell? ⟨gb237, 8, none⟩ = some (.int .i64 a0_8) := (blk_cell BK237.out 8).trans rfl
              have hcz14_9 : wc.cell? ⟨gb237, 9, none⟩ = some (.int .i64 a0_9) := (blk_cell BK237.out 9).trans rfl
              have hcz14_10 : wc.cell? ⟨gb237, 10, none⟩ = some (.string a0_10) := (blk_cell BK237.out 10).trans rfl
              have hfz14_0 := blk_frozen BK237.out 0
              have hfz14_1 := blk_frozen BK237.out 1
              have hfz14_2 := blk_frozen BK237.out 2
              have hfz14_3 := blk_frozen BK237.out 3
              have hfz14_4 := blk_frozen BK237.out 4
              have hfz14_5 := blk_frozen BK237.out 5
              have hfz14_6 := blk_frozen BK237.out 6
              have hfz14_7 := blk_frozen BK237.out 7
              have hfz14_8 := blk_frozen BK237.out 8
              have hfz14_9 := blk_frozen BK237.out 9
              have hfz14_10 := blk_frozen BK237.out 10
              go_wp2_with (first | (go_at_call 35; (with_reducible refine (manometerref18_key.calls a0_2 a0_3 t239 _ A13.out).mono ?_); rintro e w15 ⟨rfl, hb⟩; have n0_ := Aside0.mk (blk_below (g := gb237) (o := .cells #[.int .i64 a0_0, .string a0_1, .int .i64 a0_2, .string a0_3, .int .i64 a0_4, .int .i64 a0_5, .int .i64 a0_6, .int .i64 a0_7, .int .i64 a0_8, .int .i64 a0_9, .string a0_10] 27 (0, 0)) (by (with_reducible repeat (first | refine blk_drewN ?_ _ | refine blk_drew ?_ | refine blk_alloc ?_ _)); exact BK237.out) hb); have n1_ := Aside0.mk (below_step (by repeat (first | (with_reducible first | exact HB.out | apply below_alloc | apply pw_below_drewN | apply below_drew1 | refine below_set ?_ GE237.out) | exact HB.out)) hb); clear BK237; clear HB; have BK237 := n0_; have HB := n1_; clear n0_ n1_; (try clear hb); (try clear hb2); (try clear hk); (try clear hi)))
              obtain rfl := EQc12.out
              go_meet
              case rel => exact ⟨_, (!t239), (by first | rfl | (simp; done) | (simp [*]; done)), H', ⟨by have := HJ1.out; first | omega | exact Nat.le_refl _⟩, ⟨by (with_reducible repeat (first | refine blk_drewN ?_ _ | refine blk_drew ?_ | refine blk_alloc ?_ _)); exact BK237.out⟩, ⟨by repeat (first | (with_reducible first | exact HB.out | apply below_alloc | apply pw_below_drewN | apply below_drew1 | refine below_set ?_ GE237.out) | exact HB.out)⟩⟩
            · rw [if_neg c12] at H
              have c12b0 : (a0_0 == 0) = false := beq_eq_false_iff_ne.mpr c12
              have c12b1 : (a0_0 != 0) = true := bne_iff_ne.mpr c12
              (first | rw [c12b0] | (simp only [i64_w, i32_w, xu32_w, xu8_w]; rw [c12b0]) | skip)
              by_cases c16 : a0_0 = 1
              · rw [if_pos c16] at H
                have c16b0 : (a0_0 == 1) = true := beq_iff_eq.mpr c16
                have c16b1 : (a0_0 != 1) = false := bne_eq_false_iff_eq.mpr c16
                have EQc16 := Aside0.mk c16
                clear c16
                replace H := Option.bind_eq_some_iff.mp H
                obtain ⟨t240, A170, H⟩ := H
                replace H : (manometerref18_Right.j1 kj1 (!t240) a0_0 a0_1 a0_2 a0_3 a0_4 a0_5 a0_6 a0_7 a0_8 a0_9 a0_10) = some r := H
                have A17 := Aside0.mk A170
                clear A170
                have H' := Aside0.mk H
                clear H
                have hcz18_0 : wc.cell? ⟨gb237, 0, none⟩ = some (.int .i64 a0_0) := (blk_cell BK237.out 0).trans rfl
                have hcz18_1 : wc.cell? ⟨gb237, 1, none⟩ = some (.string a0_1) := (blk_cell BK237.out 1).trans rfl
                have hcz18_2 : wc.cell? ⟨gb237, 2, none⟩ = some (.int .i64 a0_2) := (blk_cell BK237.out 2).trans rfl
                have hcz18_3 : wc.cell? ⟨gb237, 3, none⟩ = some (.string a0_3) := (blk_cell BK237.out 3).trans rfl
                have hcz18_4 : wc.cell? ⟨gb237, 4, none⟩ = some (.int .i64 a0_4) := (blk_cell BK237.out 4).trans rfl
                have hcz18_5 : wc.cell? ⟨gb237, 5, none⟩ = some (.int .i64 a0_5) := (blk_cell BK237.out 5).trans rfl
                have hcz18_6 : wc.cell? ⟨gb237, 6, none⟩ = some (.int .i64 a0_6) := (blk_cell BK237.out 6).trans rfl
                have hcz18_7 : wc.cell? ⟨gb237, 7, none⟩ = some (.int .i64 a0_7) := (blk_cell BK237.out 7).trans rfl
                have hcz18_8 : wc.cell? ⟨gb237, 8, none⟩ = some (.int .i64 a0_8) := (blk_cell BK237.out 8).trans rfl
                have hcz18_9 : wc.cell? ⟨gb237, 9, none⟩ = some (.int .i64 a0_9) := (blk_cell BK237.out 9).trans rfl
                have hcz18_10 : wc.cell? ⟨gb237, 10, none⟩ = some (.string a0_10) := (blk_cell BK237.out 10).trans rfl
                have hfz18_0 := blk_frozen BK237.out 0
                have hfz18_1 := blk_frozen BK237.out 1
                have hfz18_2 := blk_frozen BK237.out 2
                have hfz18_3 := blk_frozen BK237.out 3
                have hfz18_4 := blk_frozen BK237.out 4
                have hfz18_5 := blk_frozen BK237.out 5
                have hfz18_6 := blk_frozen BK237.out 6
                have hfz18_7 := blk_frozen BK237.out 7
                have hfz18_8 := blk_frozen BK237.out 8
                have hfz18_9 := blk_frozen BK237.out 9
                have hfz18_10 := blk_frozen BK237.out 10
                go_wp2_with (first | (go_at_call 35; (with_reducible refine (manometerref18_key.calls a0_2 a0_3 t240 _ A17.out).mono ?_); rintro e w19 ⟨rfl, hb⟩; have n0_ := Aside0.mk (blk_below (g := gb237) (o := .cells #[.int .i64 a0_0, .string a0_1, .int .i64 a0_2, .string a0_3, .int .i64 a0_4, .int .i64 a0_5, .int .i64 a0_6, .int .i64 a0_7, .int .i64 a0_8, .int .i64 a0_9, .string a0_10] 27 (0, 0)) (by (with_reducible repeat (first | refine blk_drewN ?_ _ | refine blk_drew ?_ | refine blk_alloc ?_ _)); exact BK237.out) hb); have n1_ := Aside0.mk (below_step (by repeat (first | (with_reducible first | exact HB.out | apply below_alloc | apply pw_below_drewN | apply below_drew1 | refine below_set ?_ GE237.out) | exact HB.out)) hb); clear BK237; clear HB; have BK237 := n0_; have HB := n1_; clear n0_ n1_; (try clear hb); (try clear hb2); (try clear hk); (try clear hi)))
                obtain rfl := EQc16.out
                go_meet
                case rel => exact ⟨_, (!t240), (by first | rfl | (simp; done) | (simp [*]; done)), H', ⟨by have := HJ1.out; first | omega | exact Nat.le_refl _⟩, ⟨by (with_reducible repeat (first | refine blk_drewN ?_ _ | refine blk_drew ?_ | refine blk_alloc ?_ _)); exact BK237.out⟩, ⟨by repeat (first | (with_reducible first | exact HB.out | apply below_alloc | apply pw_below_drewN | apply below_drew1 | refine below_set ?_ GE237.out) | exact HB.out)⟩⟩
              · rw [if_neg c16] at H
                have c16b0 : (a0_0 == 1) = false := beq_eq_false_iff_ne.mpr c16
                have c16b1 : (a0_0 != 1) = true := bne_iff_ne.mpr c16
                have H' := Aside0.mk H
                clear H
                have hcz20_0 : wc.cell? ⟨gb237, 0, none⟩ = some (.int .i64 a0_0) := (blk_cell BK237.out 0).trans rfl
                have hcz20_1 : wc.cell? ⟨gb237, 1, none⟩ = some (.string a0_1) := (blk_cell BK237.out 1).trans rfl
                have hcz20_2 : wc.cell? ⟨gb237, 2, none⟩ = some (.int .i64 a0_2) := (blk_cell BK237.out 2).trans rfl
                have hcz20_3 : wc.cell? ⟨gb237, 3, none⟩ = some (.string a0_3) := (blk_cell BK237.out 3).trans rfl
                have hcz20_4 : wc.cell? ⟨gb237, 4, none⟩ = some (.int .i64 a0_4) := (blk_cell BK237.out 4).trans rfl
                have hcz20_5 : wc.cell? ⟨gb237, 5, none⟩ = some (.int .i64 a0_5) := (blk_cell BK237.out 5).trans rfl
                have hcz20_6 : wc.cell? ⟨gb237, 6, none⟩ = some (.int .i64 a0_6) := (blk_cell BK237.out 6).trans rfl
                have hcz20_7 : wc.cell? ⟨gb237, 7, none⟩ = some (.int .i64 a0_7) := (blk_cell BK237.out 7).trans rfl
                have hcz20_8 : wc.cell? ⟨gb237, 8, none⟩ = some (.int .i64 a0_8) := (blk_cell BK237.out 8).trans rfl
                have hcz20_9 : wc.cell? ⟨gb237, 9, none⟩ = some (.int .i64 a0_9) := (blk_cell BK237.out 9).trans rfl
                have hcz20_10 : wc.cell? ⟨gb237, 10, none⟩ = some (.string a0_10) := (blk_cell BK237.out 10).trans rfl
                have hfz20_0 := blk_frozen BK237.out 0
                have hfz20_1 := blk_frozen BK237.out 1
                have hfz20_2 := blk_frozen BK237.out 2
                have hfz20_3 := blk_frozen BK237.out 3
                have hfz20_4 := blk_frozen BK237.out 4
                have hfz20_5 := blk_frozen BK237.out 5
                have hfz20_6 := blk_frozen BK237.out 6
                have hfz20_7 := blk_frozen BK237.out 7
                have hfz20_8 := blk_frozen BK237.out 8
                have hfz20_9 := blk_frozen BK237.out 9
                have hfz20_10 := blk_frozen BK237.out 10
                go_wp2
                go_meet
                case rel => exact ⟨_, (false), (by first | rfl | (simp; done) | (simp [*]; done)), H', ⟨by have := HJ1.out; first | omega | exact Nat.le_refl _⟩, ⟨by (with_reducible repeat (first | refine blk_drewN ?_ _ | refine blk_drew ?_ | refine blk_alloc ?_ _)); exact BK237.out⟩, ⟨by repeat (first | (with_reducible first | exact HB.out | apply below_alloc | apply pw_below_drewN | apply below_drew1 | refine below_set ?_ GE237.out) | exact HB.out)⟩⟩
          case rest =>
            clear HC10
            try clear c1
            try clear p2
            try clear c3
            try clear c4
            try clear c4b0
            try clear c7
            try clear c9
            try clear c12
            try clear c12b0
            try clear c12b1
            try clear c16
            try clear c16b0
            try clear c16b1
            try clear hcz11_0
            try clear hcz11_1
            try clear hcz11_10
            try clear hcz11_2
            try clear hcz11_3
            try clear hcz11_4
            try clear hcz11_5
            try clear hcz11_6
            try clear hcz11_7
            try clear hcz11_8
            try clear hcz11_9
            try clear hcz14_0
            try clear hcz14_1
            try clear hcz14_10
            try clear hcz14_2
            try clear hcz14_3
            try clear hcz14_4
            try clear hcz14_5
            try clear hcz14_6
            try clear hcz14_7
            try clear hcz14_8
            try clear hcz14_9
            try clear hcz18_0
            try clear hcz18_1
            try clear hcz18_10
            try clear hcz18_2
            try clear hcz18_3
            try clear hcz18_4
            try clear hcz18_5
            try clear hcz18_6
            try clear hcz18_7
            try clear hcz18_8
            try clear hcz18_9
            try clear hcz20_0
            try clear hcz20_1
            try clear hcz20_10
            try clear hcz20_2
            try clear hcz20_3
            try clear hcz20_4
            try clear hcz20_5
            try clear hcz20_6
            try clear hcz20_7
            try clear hcz20_8
            try clear hcz20_9
            try clear hcz5_0
            try clear hcz5_1
            try clear hcz5_10
            try clear hcz5_2
            try clear hcz5_3
            try clear hcz5_4
            try clear hcz5_5
            try clear hcz5_6
            try clear hcz5_7
            try clear hcz5_8
            try clear hcz5_9
            try clear hcz6_0
            try clear hcz6_1
            try clear hcz6_10
            try clear hcz6_2
            try clear hcz6_3
            try clear hcz6_4
            try clear hcz6_5
            try clear hcz6_6
            try clear hcz6_7
            try clear hcz6_8
            try clear hcz6_9
            try clear hfz11_0
            try clear hfz11_1
            try clear hfz11_10
            try clear hfz11_2
            try clear hfz11_3
            try clear hfz11_4
            try clear hfz11_5
            try clear hfz11_6
            try clear hfz11_7
            try clear hfz11_8
            try clear hfz11_9
            try clear hfz14_0
            try clear hfz14_1
            try clear hfz14_10
            try clear hfz14_2
            try clear hfz14_3
            try clear hfz14_4
            try clear hfz14_5
            try clear hfz14_6
            try clear hfz14_7
            try clear hfz14_8
            try clear hfz14_9
            try clear hfz18_0
            try clear hfz18_1
            try clear hfz18_10
            try clear hfz18_2
            try clear hfz18_3
            try clear hfz18_4
            try clear hfz18_5
            try clear hfz18_6
            try clear hfz18_7
            try clear hfz18_8
            try clear hfz18_9
            try clear hfz20_0
            try clear hfz20_1
            try clear hfz20_10
            try clear hfz20_2
            try clear hfz20_3
            try clear hfz20_4
            try clear hfz20_5
            try clear hfz20_6
            try clear hfz20_7
            try clear hfz20_8
            try clear hfz20_9
            try clear hfz5_0
            try clear hfz5_1
            try clear hfz5_10
            try clear hfz5_2
            try clear hfz5_3
            try clear hfz5_4
            try clear hfz5_5
            try clear hfz5_6
            try clear hfz5_7
            try clear hfz5_8
            try clear hfz5_9
            try clear hfz6_0
            try clear hfz6_1
            try clear hfz6_10
            try clear hfz6_2
            try clear hfz6_3
            try clear hfz6_4
            try clear hfz6_5
            try clear hfz6_6
            try clear hfz6_7
            try clear hfz6_8
            try clear hfz6_9
            try clear p2
            obtain ⟨kq, x15_9, rfl, HA, HJ9, BK237, HB⟩ := hcut
            cases kq with
            | zero => exact absurd HA.out (by simp [manometerref18_Right.j1])
            | succ kj9 =>
              have H := HA.out
              clear HA
              simp only [manometerref18_Right.j1] at H
              have HC21 := Aside0.mk H
              clear H
              go_upto_if 15 with (fail)
              go_cut [15] (fun v15 wc => ∃ (kq : Nat) (x15_20 : Bool), v15 = .bool x15_20 ∧ Aside0 (manometerref18_Right.j2 kq x15_20 a0_0 a0_1 a0_2 a0_3 a0_4 a0_5 a0_6 a0_7 a0_8 a0_9 a0_10 = some r) ∧ Aside0 (kq ≤ kj9) ∧ Aside0 (wc.heap[gb237]? = some (.cells #[.int .i64 a0_0, .string a0_1, .int .i64 a0_2, .string a0_3, .int .i64 a0_4, .int .i64 a0_5, .int .i64 a0_6, .int .i64 a0_7, .int .i64 a0_8, .int .i64 a0_9, .string a0_10] 27 (0, 0))) ∧ Aside0 (Below w.heap.size w wc))
              case first =>
                have H := HC21.out
                clear HC21
                by_cases c22 : x15_9 = true
                · subst c22
                  have H1 : (manometerref18_Right.j2 kj9 true a0_0 a0_1 a0_2 a0_3 a0_4 a0_5 a0_6 a0_7 a0_8 a0_9 a0_10) = some r := by rw [if_pos rfl] at H; exact H
                  clear H
                  have H := H1
                  clear H1
                  have H' := Aside0.mk H
                  clear H
                  go_wp2
                  go_meet
                  case rel => exact ⟨_, (true), (by first | rfl | (simp; done) | (simp [*]; done)), H', ⟨by have := HJ1.out; have := HJ9.out; first | omega | exact Nat.le_refl _⟩, ⟨by (with_reducible repeat (first | refine blk_drewN ?_ _ | refine blk_drew ?_ | refine blk_alloc ?_ _)); exact BK237.out⟩, ⟨by repeat (first | (with_reducible first | exact HB.out | apply below_alloc | apply pw_below_drewN | apply below_drew1 | refine below_set ?_ GE237.out) | exact HB.out)⟩⟩
                · replace c22 := Bool.eq_false_iff.mpr c22
                  subst c22
                  have H1 : (if a0_0 = 2 then ((manometerref18_id.f a0_2).bind fun t241 => (manometerref18_Right.j2 kj9 (!t241) a0_0 a0_1 a0_2 a0_3 a0_4 a0_5 a0_6 a0_7 a0_8 a0_9 a0_10)) else (manometerref18_Right.j2 kj9 false a0_0 a0_1 a0_2 a0_3 a0_4 a0_5 a0_6 a0_7 a0_8 a0_9 a0_10)) = some r := by rw [if_neg (show ¬ (false = true) by decide)] at H; exact H
                  clear H
                  have H := H1
                  clear H1
                  by_cases c23 : a0_0 = 2
                  · rw [if_pos c23] at H
                    have c23b0 : (a0_0 == 2) = true := beq_iff_eq.mpr c23
                    have c23b1 : (a0_0 != 2) = false := bne_eq_false_iff_eq.mpr c23
                    have EQc23 := Aside0.mk c23
                    clear c23
                    (first | rw [c23b0] | (simp only [i64_w, i32_w, xu32_w, xu8_w]; rw [c23b0]) | skip)
                    replace H := Option.bind_eq_some_iff.mp H
                    obtain ⟨t241, A240, H⟩ := H
                    replace H : (manometerref18_Right.j2 kj9 (!t241) a0_0 a0_1 a0_2 a0_3 a0_4 a0_5 a0_6 a0_7 a0_8 a0_9 a0_10) = some r := H
                    have A24 := Aside0.mk A240
                    clear A240
                    have H' := Aside0.mk H
                    clear H
                    have hcz25_0 : wc.cell? ⟨gb237, 0, none⟩ = some (.int .i64 a0_0) := (blk_cell BK237.out 0).trans rfl
                    have hcz25_1 : wc.cell? ⟨gb237, 1, none⟩ = some (.string a0_1) := (blk_cell BK237.out 1).trans rfl
                    have hcz25_2 : wc.cell? ⟨gb237, 2, none⟩ = some (.int .i64 a0_2) := (blk_cell BK237.out 2).trans rfl
                    have hcz25_3 : wc.cell? ⟨gb237, 3, none⟩ = some (.string a0_3) := (blk_cell BK237.out 3).trans rfl
                    have hcz25_4 : wc.cell? ⟨gb237, 4, none⟩ = some (.int .i64 a0_4) := (blk_cell BK237.out 4).trans rfl
                    have hcz25_5 : wc.cell? ⟨gb237, 5, none⟩ = some (.int .i64 a0_5) := (blk_cell BK237.out 5).trans rfl
                    have hcz25_6 : wc.cell? ⟨gb237, 6, none⟩ = some (.int .i64 a0_6) := (blk_cell BK237.out 6).trans rfl
                    have hcz25_7 : wc.cell? ⟨gb237, 7, none⟩ = some (.int .i64 a0_7) := (blk_cell BK237.out 7).trans rfl
                    have hcz25_8 : wc.cell? ⟨gb237, 8, none⟩ = some (.int .i64 a0_8) := (blk_cell BK237.out 8).trans rfl
                    have hcz25_9 : wc.cell? ⟨gb237, 9, none⟩ = some (.int .i64 a0_9) := (blk_cell BK237.out 9).trans rfl
                    have hcz25_10 : wc.cell? ⟨gb237, 10, none⟩ = some (.string a0_10) := (blk_cell BK237.out 10).trans rfl
                    have hfz25_0 := blk_frozen BK237.out 0
                    have hfz25_1 := blk_frozen BK237.out 1
                    have hfz25_2 := blk_frozen BK237.out 2
                    have hfz25_3 := blk_frozen BK237.out 3
                    have hfz25_4 := blk_frozen BK237.out 4
                    have hfz25_5 := blk_frozen BK237.out 5
                    have hfz25_6 := blk_frozen BK237.out 6
                    have hfz25_7 := blk_frozen BK237.out 7
                    have hfz25_8 := blk_frozen BK237.out 8
                    have hfz25_9 := blk_frozen BK237.out 9
                    have hfz25_10 := blk_frozen BK237.out 10
                    go_wp2_with (first | (go_at_call 36; (with_reducible refine (manometerref18_id.calls a0_2 t241 _ A24.out).mono ?_); rintro e w' ⟨rfl, ⟨nd, rfl⟩⟩))
                    obtain rfl := EQc23.out
                    go_meet
                    case rel => exact ⟨_, (!t241), (by first | rfl | (simp; done) | (simp [*]; done)), H', ⟨by have := HJ1.out; have := HJ9.out; first | omega | exact Nat.le_refl _⟩, ⟨by (with_reducible repeat (first | refine blk_drewN ?_ _ | refine blk_drew ?_ | refine blk_alloc ?_ _)); exact BK237.out⟩, ⟨by repeat (first | (with_reducible first | exact HB.out | apply below_alloc | apply pw_below_drewN | apply below_drew1 | refine below_set ?_ GE237.out) | exact HB.out)⟩⟩
                  · rw [if_neg c23] at H
                    have c23b0 : (a0_0 == 2) = false := beq_eq_false_iff_ne.mpr c23
                    have c23b1 : (a0_0 != 2) = true := bne_iff_ne.mpr c23
                    (first | rw [c23b0] | (simp only [i64_w, i32_w, xu32_w, xu8_w]; rw [c23b0]) | skip)
                    have H' := Aside0.mk H
                    clear H
                    have hcz26_0 : wc.cell? ⟨gb237, 0, none⟩ = some (.int .i64 a0_0) := (blk_cell BK237.out 0).trans rfl
                    have hcz26_1 : wc.cell? ⟨gb237, 1, none⟩ = some (.string a0_1) := (blk_cell BK237.out 1).trans rfl
                    have hcz26_2 : wc.cell? ⟨gb237, 2, none⟩ = some (.int .i64 a0_2) := (blk_cell BK237.out 2).trans rfl
                    have hcz26_3 : wc.cell? ⟨gb237, 3, none⟩ = some (.string a0_3) := (blk_cell BK237.out 3).trans rfl
                    have hcz26_4 : wc.cell? ⟨gb237, 4, none⟩ = some (.int .i64 a0_4) := (blk_cell BK237.out 4).trans rfl
                    have hcz26_5 : wc.cell? ⟨gb237, 5, none⟩ = some (.int .i64 a0_5) := (blk_cell BK237.out 5).trans rfl
                    have hcz26_6 : wc.cell? ⟨gb237, 6, none⟩ = some (.int .i64 a0_6) := (blk_cell BK237.out 6).trans rfl
                    have hcz26_7 : wc.cell? ⟨gb237, 7, none⟩ = some (.int .i64 a0_7) := (blk_cell BK237.out 7).trans rfl
                    have hcz26_8 : wc.cell? ⟨gb237, 8, none⟩ = some (.int .i64 a0_8) := (blk_cell BK237.out 8).trans rfl
                    have hcz26_9 : wc.cell? ⟨gb237, 9, none⟩ = some (.int .i64 a0_9) := (blk_cell BK237.out 9).trans rfl
                    have hcz26_10 : wc.cell? ⟨gb237, 10, none⟩ = some (.string a0_10) := (blk_cell BK237.out 10).trans rfl
                    have hfz26_0 := blk_frozen BK237.out 0
                    have hfz26_1 := blk_frozen BK237.out 1
                    have hfz26_2 := blk_frozen BK237.out 2
                    have hfz26_3 := blk_frozen BK237.out 3
                    have hfz26_4 := blk_frozen BK237.out 4
                    have hfz26_5 := blk_frozen BK237.out 5
                    have hfz26_6 := blk_frozen BK237.out 6
                    have hfz26_7 := blk_frozen BK237.out 7
                    have hfz26_8 := blk_frozen BK237.out 8
                    have hfz26_9 := blk_frozen BK237.out 9
                    have hfz26_10 := blk_frozen BK237.out 10
                    go_wp2
                    go_meet
                    case rel => exact ⟨_, (false), (by first | rfl | (simp; done) | (simp [*]; done)), H', ⟨by have := HJ1.out; have := HJ9.out; first | omega | exact Nat.le_refl _⟩, ⟨by (with_reducible repeat (first | refine blk_drewN ?_ _ | refine blk_drew ?_ | refine blk_alloc ?_ _)); exact BK237.out⟩, ⟨by repeat (first | (with_reducible first | exact HB.out | apply below_alloc | apply pw_below_drewN | apply below_drew1 | refine below_set ?_ GE237.out) | exact HB.out)⟩⟩
              case rest =>
                clear HC21
                try clear c1
                try clear c2
                try clear p2
                try clear c3
                try clear c4
                try clear c4b0
                try clear c7
                try clear c9
                try clear c12
                try clear c12b0
                try clear c12b1
                try clear c16
                try clear c16b0
                try clear c16b1
                try clear c22
                try clear c23
                try clear c23b0
                try clear c23b1
                try clear hcz11_0
                try clear hcz11_1
                try clear hcz11_10
                try clear hcz11_2
                try clear hcz11_3
                try clear hcz11_4
                try clear hcz11_5
                try clear hcz11_6
                try clear hcz11_7
                try clear hcz11_8
                try clear hcz11_9
                try clear hcz14_0
                try clear hcz14_1
                try clear hcz14_10
                try clear hcz14_2
                try clear hcz14_3
                try clear hcz14_4
                try clear hcz14_5
                try clear hcz14_6
                try clear hcz14_7
                try clear hcz14_8
                try clear hcz14_9
                try clear hcz18_0
                try clear hcz18_1
                try clear hcz18_10
                try clear hcz18_2
                try clear hcz18_3
                try clear hcz18_4
                try clear hcz18_5
                try clear hcz18_6
                try clear hcz18_7
                try clear hcz18_8
                try clear hcz18_9
                try clear hcz20_0
                try clear hcz20_1
                try clear hcz20_10
                try clear hcz20_2
                try clear hcz20_3
                try clear hcz20_4
                try clear hcz20_5
                try clear hcz20_6
                try clear hcz20_7
                try clear hcz20_8
                try clear hcz20_9
                try clear hcz25_0
                try clear hcz25_1
                try clear hcz25_10
                try clear hcz25_2
                try clear hcz25_3
                try clear hcz25_4
                try clear hcz25_5
                try clear hcz25_6
                try clear hcz25_7
                try clear hcz25_8
                try clear hcz25_9
                try clear hcz26_0
                try clear hcz26_1
                try clear hcz26_10
                try clear hcz26_2
                try clear hcz26_3
                try clear hcz26_4
                try clear hcz26_5
                try clear hcz26_6
                try clear hcz26_7
                try clear hcz26_8
                try clear hcz26_9
                try clear hcz5_0
                try clear hcz5_1
                try clear hcz5_10
                try clear hcz5_2
                try clear hcz5_3
                try clear hcz5_4
                try clear hcz5_5
                try clear hcz5_6
                try clear hcz5_7
                try clear hcz5_8
                try clear hcz5_9
                try clear hcz6_0
                try clear hcz6_1
                try clear hcz6_10
                try clear hcz6_2
                try clear hcz6_3
                try clear hcz6_4
                try clear hcz6_5
                try clear hcz6_6
                try clear hcz6_7
                try clear hcz6_8
                try clear hcz6_9
                try clear hfz11_0
                try clear hfz11_1
                try clear hfz11_10
                try clear hfz11_2
                try clear hfz11_3
                try clear hfz11_4
                try clear hfz11_5
                try clear hfz11_6
                try clear hfz11_7
                try clear hfz11_8
                try clear hfz11_9
                try clear hfz14_0
                try clear hfz14_1
                try clear hfz14_10
                try clear hfz14_2
                try clear hfz14_3
                try clear hfz14_4
                try clear hfz14_5
                try clear hfz14_6
                try clear hfz14_7
                try clear hfz14_8
                try clear hfz14_9
                try clear hfz18_0
                try clear hfz18_1
                try clear hfz18_10
                try clear hfz18_2
                try clear hfz18_3
                try clear hfz18_4
                try clear hfz18_5
                try clear hfz18_6
                try clear hfz18_7
                try clear hfz18_8
                try clear hfz18_9
                try clear hfz20_0
                try clear hfz20_1
                try clear hfz20_10
                try clear hfz20_2
                try clear hfz20_3
                try clear hfz20_4
                try clear hfz20_5
                try clear hfz20_6
                try clear hfz20_7
                try clear hfz20_8
                try clear hfz20_9
                try clear hfz25_0
                try clear hfz25_1
                try clear hfz25_10
                try clear hfz25_2
                try clear hfz25_3
                try clear hfz25_4
                try clear hfz25_5
                try clear hfz25_6
                try clear hfz25_7
                try clear hfz25_8
                try clear hfz25_9
                try clear hfz26_0
                try clear hfz26_1
                try clear hfz26_10
                try clear hfz26_2
                try clear hfz26_3
                try clear hfz26_4
                try clear hfz26_5
                try clear hfz26_6
                try clear hfz26_7
                try clear hfz26_8
                try clear hfz26_9
                try clear hfz5_0
                try clear hfz5_1
                try clear hfz5_10
                try clear hfz5_2
                try clear hfz5_3
                try clear hfz5_4
                try clear hfz5_5
                try clear hfz5_6
                try clear hfz5_7
                try clear hfz5_8
                try clear hfz5_9
                try clear hfz6_0
                try clear hfz6_1
                try clear hfz6_10
                try clear hfz6_2
                try clear hfz6_3
                try clear hfz6_4
                try clear hfz6_5
                try clear hfz6_6
                try clear hfz6_7
                try clear hfz6_8
                try clear hfz6_9
                try clear p2
                obtain ⟨kq, x15_20, rfl, HA, HJ20, BK237, HB⟩ := hcut
                cases kq with
                | zero => exact absurd HA.out (by simp [manometerref18_Right.j2])
                | succ kj20 =>
                  have H := HA.out
                  clear HA
                  simp only [manometerref18_Right.j2] at H
                  by_cases c27 : x15_20 = true
                  · subst c27
                    have H1 : (some 181) = some r := by rw [if_pos rfl] at H; exact H
                    clear H
                    have H := H1
                    clear H1
                    obtain rfl := Option.some.inj H
                    go_wp2
                    go_ret
                    exact ⟨by first | rfl | (simp [errW_none, errW_some] <;> rfl) | (simp [*, errW_none, errW_some] <;> rfl), by repeat (first | (with_reducible first | exact HB.out | apply below_alloc | apply pw_below_drewN | apply below_drew1 | refine below_set ?_ GE237.out) | exact HB.out)⟩
                  · replace c27 := Bool.eq_false_iff.mpr c27
                    subst c27
                    have H1 : (if a0_0 = 0 then ((manometerref18_limits.f a0_4 a0_5 a0_6 a0_7).bind fun t242 => (manometerref18_Right.j3 kj20 (!t242) a0_0 a0_1 a0_2 a0_3 a0_4 a0_5 a0_6 a0_7 a0_8 a0_9 a0_10)) else (if a0_0 = 3 then ((manometerref18_limits.f a0_4 a0_5 a0_6 a0_7).bind fun t243 => (manometerref18_Right.j3 kj20 (!t243) a0_0 a0_1 a0_2 a0_3 a0_4 a0_5 a0_6 a0_7 a0_8 a0_9 a0_10)) else (manometerref18_Right.j3 kj20 false a0_0 a0_1 a0_2 a0_3 a0_4 a0_5 a0_6 a0_7 a0_8 a0_9 a0_10))) = some r := by rw [if_neg (show ¬ (false = true) by decide)] at H; exact H
                    clear H
                    have H := H1
                    clear H1
                    have HC28 := Aside0.mk H
                    clear H
                    go_upto_region 8 with (fail)
                    go_cut [40] (fun v40 wc => ∃ (kq : Nat) (x40_27 : Bool), v40 = .bool x40_27 ∧ Aside0 (manometerref18_Right.j3 kq x40_27 a0_0 a0_1 a0_2 a0_3 a0_4 a0_5 a0_6 a0_7 a0_8 a0_9 a0_10 = some r) ∧ Aside0 (kq ≤ kj20) ∧ Aside0 (wc.heap[gb237]? = some (.cells #[.int .i64 a0_0, .string a0_1, .int .i64 a0_2, .string a0_3, .int .i64 a0_4, .int .i64 a0_5, .int .i64 a0_6, .int .i64 a0_7, .int .i64 a0_8, .int .i64 a0_9, .string a0_10] 27 (0, 0))) ∧ Aside0 (Below w.heap.size w wc))
                    case first =>
                      have H := HC28.out
                      clear HC28
                      by_cases c29 : a0_0 = 0
                      · rw [if_pos c29] at H
                        have c29b0 : (a0_0 == 0) = true := beq_iff_eq.mpr c29
                        have c29b1 : (a0_0 != 0) = false := bne_eq_false_iff_eq.mpr c29
                        have EQc29 := Aside0.mk c29
                        clear c29
                        (first | rw [c29b0] | (simp only [i64_w, i32_w, xu32_w, xu8_w]; rw [c29b0]) | skip)
                        replace H := Option.bind_eq_some_iff.mp H
                        obtain ⟨t242, A300, H⟩ := H
                        replace H : (manometerref18_Right.j3 kj20 (!t242) a0_0 a0_1 a0_2 a0_3 a0_4 a0_5 a0_6 a0_7 a0_8 a0_9 a0_10) = some r := H
                        have A30 := Aside0.mk A300
                        clear A300
                        have H' := Aside0.mk H
                        clear H
                        have hcz31_0 : wc.cell? ⟨gb237, 0, none⟩ = some (.int .i64 a0_0) := (blk_cell BK237.out 0).trans rfl
                        have hcz31_1 : wc.cell? ⟨gb237, 1, none⟩ = some (.string a0_1) := (blk_cell BK237.out 1).trans rfl
                        have hcz31_2 : wc.cell? ⟨gb237, 2, none⟩ = some (.int .i64 a0_2) := (blk_cell BK237.out 2).trans rfl
                        have hcz31_3 : wc.cell? ⟨gb237, 3, none⟩ = some (.string a0_3) := (blk_cell BK237.out 3).trans rfl
                        have hcz31_4 : wc.cell? ⟨gb237, 4, none⟩ = some (.int .i64 a0_4) := (blk_cell BK237.out 4).trans rfl
                        have hcz31_5 : wc.cell? ⟨gb237, 5, none⟩ = some (.int .i64 a0_5) := (blk_cell BK237.out 5).trans rfl
                        have hcz31_6 : wc.cell? ⟨gb237, 6, none⟩ = some (.int .i64 a0_6) := (blk_cell BK237.out 6).trans rfl
                        have hcz31_7 : wc.cell? ⟨gb237, 7, none⟩ = some (.int .i64 a0_7) := (blk_cell BK237.out 7).trans rfl
                        have hcz31_8 : wc.cell? ⟨gb237, 8, none⟩ = some (.int .i64 a0_8) := (blk_cell BK237.out 8).trans rfl
                        have hcz31_9 : wc.cell? ⟨gb237, 9, none⟩ = some (.int .i64 a0_9) := (blk_cell BK237.out 9).trans rfl
                        have hcz31_10 : wc.cell? ⟨gb237, 10, none⟩ = some (.string a0_10) := (blk_cell BK237.out 10).trans rfl
                        have hfz31_0 := blk_frozen BK237.out 0
                        have hfz31_1 := blk_frozen BK237.out 1
                        have hfz31_2 := blk_frozen BK237.out 2
                        have hfz31_3 := blk_frozen BK237.out 3
                        have hfz31_4 := blk_frozen BK237.out 4
                        have hfz31_5 := blk_frozen BK237.out 5
                        have hfz31_6 := blk_frozen BK237.out 6
                        have hfz31_7 := blk_frozen BK237.out 7
                        have hfz31_8 := blk_frozen BK237.out 8
                        have hfz31_9 := blk_frozen BK237.out 9
                        have hfz31_10 := blk_frozen BK237.out 10
                        go_wp2_with (first | (go_at_call 37; (with_reducible refine (manometerref18_limits.calls a0_4 a0_5 a0_6 a0_7 t242 _ A30.out).mono ?_); rintro e w32 ⟨rfl, hb⟩; have n0_ := Aside0.mk (blk_below (g := gb237) (o := .cells #[.int .i64 a0_0, .string a0_1, .int .i64 a0_2, .string a0_3, .int .i64 a0_4, .int .i64 a0_5, .int .i64 a0_6, .int .i64 a0_7, .int .i64 a0_8, .int .i64 a0_9, .string a0_10] 27 (0, 0)) (by (with_reducible repeat (first | refine blk_drewN ?_ _ | refine blk_drew ?_ | refine blk_alloc ?_ _)); exact BK237.out) hb); have n1_ := Aside0.mk (below_step (by repeat (first | (with_reducible first | exact HB.out | apply below_alloc | apply pw_below_drewN | apply below_drew1 | refine below_set ?_ GE237.out) | exact HB.out)) hb); clear BK237; clear HB; have BK237 := n0_; have HB := n1_; clear n0_ n1_; (try clear hb); (try clear hb2); (try clear hk); (try clear hi)))
                        obtain rfl := EQc29.out
                        go_meet
                        case rel => exact ⟨_, (!t242), (by first | rfl | (simp; done) | (simp [*]; done)), H', ⟨by have := HJ1.out; have := HJ9.out; have := HJ20.out; first | omega | exact Nat.le_refl _⟩, ⟨by (with_reducible repeat (first | refine blk_drewN ?_ _ | refine blk_drew ?_ | refine blk_alloc ?_ _)); exact BK237.out⟩, ⟨by repeat (first | (with_reducible first | exact HB.out | apply below_alloc | apply pw_below_drewN | apply below_drew1 | refine below_set ?_ GE237.out) | exact HB.out)⟩⟩
                      · rw [if_neg c29] at H
                        have c29b0 : (a0_0 == 0) = false := beq_eq_false_iff_ne.mpr c29
                        have c29b1 : (a0_0 != 0) = true := bne_iff_ne.mpr c29
                        (first | rw [c29b0] | (simp only [i64_w, i32_w, xu32_w, xu8_w]; rw [c29b0]) | skip)
                        by_cases c33 : a0_0 = 3
                        · rw [if_pos c33] at H
                          have c33b0 : (a0_0 == 3) = true := beq_iff_eq.mpr c33
                          have c33b1 : (a0_0 != 3) = false := bne_eq_false_iff_eq.mpr c33
                          have EQc33 := Aside0.mk c33
                          clear c33
                          replace H := Option.bind_eq_some_iff.mp H
                          obtain ⟨t243, A340, H⟩ := H
                          replace H : (manometerref18_Right.j3 kj20 (!t243) a0_0 a0_1 a0_2 a0_3 a0_4 a0_5 a0_6 a0_7 a0_8 a0_9 a0_10) = some r := H
                          have A34 := Aside0.mk A340
                          clear A340
                          have H' := Aside0.mk H
                          clear H
                          have hcz35_0 : wc.cell? ⟨gb237, 0, none⟩ = some (.int .i64 a0_0) := (blk_cell BK237.out 0).trans rfl
                          have hcz35_1 : wc.cell? ⟨gb237, 1, none⟩ = some (.string a0_1) := (blk_cell BK237.out 1).trans rfl
                          have hcz35_2 : wc.cell? ⟨gb237, 2, none⟩ = some (.int .i64 a0_2) := (blk_cell BK237.out 2).trans rfl
                          have hcz35_3 : wc.cell? ⟨gb237, 3, none⟩ = some (.string a0_3) := (blk_cell BK237.out 3).trans rfl
                          have hcz35_4 : wc.cell? ⟨gb237, 4, none⟩ = some (.int .i64 a0_4) := (blk_cell BK237.out 4).trans rfl
                          have hcz35_5 : wc.cell? ⟨gb237, 5, none⟩ = some (.int .i64 a0_5) := (blk_cell BK237.out 5).trans rfl
                          have hcz35_6 : wc.cell? ⟨gb237, 6, none⟩ = some (.int .i64 a0_6) := (blk_cell BK237.out 6).trans rfl
                          have hcz35_7 : wc.cell? ⟨gb237, 7, none⟩ = some (.int .i64 a0_7) := (blk_cell BK237.out 7).trans rfl
                          have hcz35_8 : wc.cell? ⟨gb237, 8, none⟩ = some (.int .i64 a0_8) := (blk_cell BK237.out 8).trans rfl
                          have hcz35_9 : wc.cell? ⟨gb237, 9, none⟩ = some (.int .i64 a0_9) := (blk_cell BK237.out 9).trans rfl
                          have hcz35_10 : wc.cell? ⟨gb237, 10, none⟩ = some (.string a0_10) := (blk_cell BK237.out 10).trans rfl
                          have hfz35_0 := blk_frozen BK237.out 0
                          have hfz35_1 := blk_frozen BK237.out 1
                          have hfz35_2 := blk_frozen BK237.out 2
                          have hfz35_3 := blk_frozen BK237.out 3
                          have hfz35_4 := blk_frozen BK237.out 4
                          have hfz35_5 := blk_frozen BK237.out 5
                          have hfz35_6 := blk_frozen BK237.out 6
                          have hfz35_7 := blk_frozen BK237.out 7
                          have hfz35_8 := blk_frozen BK237.out 8
                          have hfz35_9 := blk_frozen BK237.out 9
                          have hfz35_10 := blk_frozen BK237.out 10
                          go_wp2_with (first | (go_at_call 37; (with_reducible refine (manometerref18_limits.calls a0_4 a0_5 a0_6 a0_7 t243 _ A34.out).mono ?_); rintro e w36 ⟨rfl, hb⟩; have n0_ := Aside0.mk (blk_below (g := gb237) (o := .cells #[.int .i64 a0_0, .string a0_1, .int .i64 a0_2, .string a0_3, .int .i64 a0_4, .int .i64 a0_5, .int .i64 a0_6, .int .i64 a0_7, .int .i64 a0_8, .int .i64 a0_9, .string a0_10] 27 (0, 0)) (by (with_reducible repeat (first | refine blk_drewN ?_ _ | refine blk_drew ?_ | refine blk_alloc ?_ _)); exact BK237.out) hb); have n1_ := Aside0.mk (below_step (by repeat (first | (with_reducible first | exact HB.out | apply below_alloc | apply pw_below_drewN | apply below_drew1 | refine below_set ?_ GE237.out) | exact HB.out)) hb); clear BK237; clear HB; have BK237 := n0_; have HB := n1_; clear n0_ n1_; (try clear hb); (try clear hb2); (try clear hk); (try clear hi)))
                          obtain rfl := EQc33.out
                          go_meet
                          case rel => exact ⟨_, (!t243), (by first | rfl | (simp; done) | (simp [*]; done)), H', ⟨by have := HJ1.out; have := HJ9.out; have := HJ20.out; first | omega | exact Nat.le_refl _⟩, ⟨by (with_reducible repeat (first | refine blk_drewN ?_ _ | refine blk_drew ?_ | refine blk_alloc ?_ _)); exact BK237.out⟩, ⟨by repeat (first | (with_reducible first | exact HB.out | apply below_alloc | apply pw_below_drewN | apply below_drew1 | refine below_set ?_ GE237.out) | exact HB.out)⟩⟩
                        · rw [if_neg c33] at H
                          have c33b0 : (a0_0 == 3) = false := beq_eq_false_iff_ne.mpr c33
                          have c33b1 : (a0_0 != 3) = true := bne_iff_ne.mpr c33
                          have H' := Aside0.mk H
                          clear H
                          have hcz37_0 : wc.cell? ⟨gb237, 0, none⟩ = some (.int .i64 a0_0) := (blk_cell BK237.out 0).trans rfl
                          have hcz37_1 : wc.cell? ⟨gb237, 1, none⟩ = some (.string a0_1) := (blk_cell BK237.out 1).trans rfl
                          have hcz37_2 : wc.cell? ⟨gb237, 2, none⟩ = some (.int .i64 a0_2) := (blk_cell BK237.out 2).trans rfl
                          have hcz37_3 : wc.cell? ⟨gb237, 3, none⟩ = some (.string a0_3) := (blk_cell BK237.out 3).trans rfl
                          have hcz37_4 : wc.cell? ⟨gb237, 4, none⟩ = some (.int .i64 a0_4) := (blk_cell BK237.out 4).trans rfl
                          have hcz37_5 : wc.cell? ⟨gb237, 5, none⟩ = some (.int .i64 a0_5) := (blk_cell BK237.out 5).trans rfl
                          have hcz37_6 : wc.cell? ⟨gb237, 6, none⟩ = some (.int .i64 a0_6) := (blk_cell BK237.out 6).trans rfl
                          have hcz37_7 : wc.cell? ⟨gb237, 7, none⟩ = some (.int .i64 a0_7) := (blk_cell BK237.out 7).trans rfl
                          have hcz37_8 : wc.cell? ⟨gb237, 8, none⟩ = some (.int .i64 a0_8) := (blk_cell BK237.out 8).trans rfl
                          have hcz37_9 : wc.cell? ⟨gb237, 9, none⟩ = some (.int .i64 a0_9) := (blk_cell BK237.out 9).trans rfl
                          have hcz37_10 : wc.cell? ⟨gb237, 10, none⟩ = some (.string a0_10) := (blk_cell BK237.out 10).trans rfl
                          have hfz37_0 := blk_frozen BK237.out 0
                          have hfz37_1 := blk_frozen BK237.out 1
                          have hfz37_2 := blk_frozen BK237.out 2
                          have hfz37_3 := blk_frozen BK237.out 3
                          have hfz37_4 := blk_frozen BK237.out 4
                          have hfz37_5 := blk_frozen BK237.out 5
                          have hfz37_6 := blk_frozen BK237.out 6
                          have hfz37_7 := blk_frozen BK237.out 7
                          have hfz37_8 := blk_frozen BK237.out 8
                          have hfz37_9 := blk_frozen BK237.out 9
                          have hfz37_10 := blk_frozen BK237.out 10
                          go_wp2
                          go_meet
                          case rel => exact ⟨_, (false), (by first | rfl | (simp; done) | (simp [*]; done)), H', ⟨by have := HJ1.out; have := HJ9.out; have := HJ20.out; first | omega | exact Nat.le_refl _⟩, ⟨by (with_reducible repeat (first | refine blk_drewN ?_ _ | refine blk_drew ?_ | refine blk_alloc ?_ _)); exact BK237.out⟩, ⟨by repeat (first | (with_reducible first | exact HB.out | apply below_alloc | apply pw_below_drewN | apply below_drew1 | refine below_set ?_ GE237.out) | exact HB.out)⟩⟩
                    case rest =>
                      clear HC28
                      try clear c1
                      try clear c2
                      try clear p2
                      try clear c3
                      try clear c4
                      try clear c4b0
                      try clear c7
                      try clear c9
                      try clear c12
                      try clear c12b0
                      try clear c12b1
                      try clear c16
                      try clear c16b0
                      try clear c16b1
                      try clear c22
                      try clear c23
                      try clear c23b0
                      try clear c23b1
                      try clear c27
                      try clear c29
                      try clear c29b0
                      try clear c29b1
                      try clear c33
                      try clear c33b0
                      try clear c33b1
                      try clear hcz11_0
                      try clear hcz11_1
                      try clear hcz11_10
                      try clear hcz11_2
                      try clear hcz11_3
                      try clear hcz11_4
                      try clear hcz11_5
                      try clear hcz11_6
                      try clear hcz11_7
                      try clear hcz11_8
                      try clear hcz11_9
                      try clear hcz14_0
                      try clear hcz14_1
                      try clear hcz14_10
                      try clear hcz14_2
                      try clear hcz14_3
                      try clear hcz14_4
                      try clear hcz14_5
                      try clear hcz14_6
                      try clear hcz14_7
                      try clear hcz14_8
                      try clear hcz14_9
                      try clear hcz18_0
                      try clear hcz18_1
                      try clear hcz18_10
                      try clear hcz18_2
                      try clear hcz18_3
                      try clear hcz18_4
                      try clear hcz18_5
                      try clear hcz18_6
                      try clear hcz18_7
                      try clear hcz18_8
                      try clear hcz18_9
                      try clear hcz20_0
                      try clear hcz20_1
                      try clear hcz20_10
                      try clear hcz20_2
                      try clear hcz20_3
                      try clear hcz20_4
                      try clear hcz20_5
                      try clear hcz20_6
                      try clear hcz20_7
                      try clear hcz20_8
                      try clear hcz20_9
                      try clear hcz25_0
                      try clear hcz25_1
                      try clear hcz25_10
                      try clear hcz25_2
                      try clear hcz25_3
                      try clear hcz25_4
                      try clear hcz25_5
                      try clear hcz25_6
                      try clear hcz25_7
                      try clear hcz25_8
                      try clear hcz25_9
                      try clear hcz26_0
                      try clear hcz26_1
                      try clear hcz26_10
                      try clear hcz26_2
                      try clear hcz26_3
                      try clear hcz26_4
                      try clear hcz26_5
                      try clear hcz26_6
                      try clear hcz26_7
                      try clear hcz26_8
                      try clear hcz26_9
                      try clear hcz31_0
                      try clear hcz31_1
                      try clear hcz31_10
                      try clear hcz31_2
                      try clear hcz31_3
                      try clear hcz31_4
                      try clear hcz31_5
                      try clear hcz31_6
                      try clear hcz31_7
                      try clear hcz31_8
                      try clear hcz31_9
                      try clear hcz35_0
                      try clear hcz35_1
                      try clear hcz35_10
                      try clear hcz35_2
                      try clear hcz35_3
                      try clear hcz35_4
                      try clear hcz35_5
                      try clear hcz35_6
                      try clear hcz35_7
                      try clear hcz35_8
                      try clear hcz35_9
                      try clear hcz37_0
                      try clear hcz37_1
                      try clear hcz37_10
                      try clear hcz37_2
                      try clear hcz37_3
                      try clear hcz37_4
                      try clear hcz37_5
                      try clear hcz37_6
                      try clear hcz37_7
                      try clear hcz37_8
                      try clear hcz37_9
                      try clear hcz5_0
                      try clear hcz5_1
                      try clear hcz5_10
                      try clear hcz5_2
                      try clear hcz5_3
                      try clear hcz5_4
                      try clear hcz5_5
                      try clear hcz5_6
                      try clear hcz5_7
                      try clear hcz5_8
                      try clear hcz5_9
                      try clear hcz6_0
                      try clear hcz6_1
                      try clear hcz6_10
                      try clear hcz6_2
                      try clear hcz6_3
                      try clear hcz6_4
                      try clear hcz6_5
                      try clear hcz6_6
                      try clear hcz6_7
                      try clear hcz6_8
                      try clear hcz6_9
                      try clear hfz11_0
                      try clear hfz11_1
                      try clear hfz11_10
                      try clear hfz11_2
                      try clear hfz11_3
                      try clear hfz11_4
                      try clear hfz11_5
                      try clear hfz11_6
                      try clear hfz11_7
                      try clear hfz11_8
                      try clear hfz11_9
                      try clear hfz14_0
                      try clear hfz14_1
                      try clear hfz14_10
                      try clear hfz14_2
                      try clear hfz14_3
                      try clear hfz14_4
                      try clear hfz14_5
                      try clear hfz14_6
                      try clear hfz14_7
                      try clear hfz14_8
                      try clear hfz14_9
                      try clear hfz18_0
                      try clear hfz18_1
                      try clear hfz18_10
                      try clear hfz18_2
                      try clear hfz18_3
                      try clear hfz18_4
                      try clear hfz18_5
                      try clear hfz18_6
                      try clear hfz18_7
                      try clear hfz18_8
                      try clear hfz18_9
                      try clear hfz20_0
                      try clear hfz20_1
                      try clear hfz20_10
                      try clear hfz20_2
                      try clear hfz20_3
                      try clear hfz20_4
                      try clear hfz20_5
                      try clear hfz20_6
                      try clear hfz20_7
                      try clear hfz20_8
                      try clear hfz20_9
                      try clear hfz25_0
                      try clear hfz25_1
                      try clear hfz25_10
                      try clear hfz25_2
                      try clear hfz25_3
                      try clear hfz25_4
                      try clear hfz25_5
                      try clear hfz25_6
                      try clear hfz25_7
                      try clear hfz25_8
                      try clear hfz25_9
                      try clear hfz26_0
                      try clear hfz26_1
                      try clear hfz26_10
                      try clear hfz26_2
                      try clear hfz26_3
                      try clear hfz26_4
                      try clear hfz26_5
                      try clear hfz26_6
                      try clear hfz26_7
                      try clear hfz26_8
                      try clear hfz26_9
                      try clear hfz31_0
                      try clear hfz31_1
                      try clear hfz31_10
                      try clear hfz31_2
                      try clear hfz31_3
                      try clear hfz31_4
                      try clear hfz31_5
                      try clear hfz31_6
                      try clear hfz31_7
                      try clear hfz31_8
                      try clear hfz31_9
                      try clear hfz35_0
                      try clear hfz35_1
                      try clear hfz35_10
                      try clear hfz35_2
                      try clear hfz35_3
                      try clear hfz35_4
                      try clear hfz35_5
                      try clear hfz35_6
                      try clear hfz35_7
                      try clear hfz35_8
                      try clear hfz35_9
                      try clear hfz37_0
                      try clear hfz37_1
                      try clear hfz37_10
                      try clear hfz37_2
                      try clear hfz37_3
                      try clear hfz37_4
                      try clear hfz37_5
                      try clear hfz37_6
                      try clear hfz37_7
                      try clear hfz37_8
                      try clear hfz37_9
                      try clear hfz5_0
                      try clear hfz5_1
                      try clear hfz5_10
                      try clear hfz5_2
                      try clear hfz5_3
                      try clear hfz5_4
                      try clear hfz5_5
                      try clear hfz5_6
                      try clear hfz5_7
                      try clear hfz5_8
                      try clear hfz5_9
                      try clear hfz6_0
                      try clear hfz6_1
                      try clear hfz6_10
                      try clear hfz6_2
                      try clear hfz6_3
                      try clear hfz6_4
                      try clear hfz6_5
                      try clear hfz6_6
                      try clear hfz6_7
                      try clear hfz6_8
                      try clear hfz6_9
                      try clear p2
                      obtain ⟨kq, x40_27, rfl, HA, HJ27, BK237, HB⟩ := hcut
                      cases kq with
                      | zero => exact absurd HA.out (by simp [manometerref18_Right.j3])
                      | succ kj27 =>
                        have H := HA.out
                        clear HA
                        simp only [manometerref18_Right.j3] at H
                        by_cases c38 : x40_27 = true
                        · subst c38
                          have H1 : (some 183) = some r := by rw [if_pos rfl] at H; exact H
                          clear H
                          have H := H1
                          clear H1
                          obtain rfl := Option.some.inj H
                          go_wp2
                          go_ret
                          exact ⟨by first | rfl | (simp [errW_none, errW_some] <;> rfl) | (simp [*, errW_none, errW_some] <;> rfl), by repeat (first | (with_reducible first | exact HB.out | apply below_alloc | apply pw_below_drewN | apply below_drew1 | refine below_set ?_ GE237.out) | exact HB.out)⟩
                        · replace c38 := Bool.eq_false_iff.mpr c38
                          subst c38
                          have H1 : (if a0_0 = 0 then (if a0_8 < 1 then (manometerref18_Right.j4 kj27 true a0_0 a0_1 a0_2 a0_3 a0_4 a0_5 a0_6 a0_7 a0_8 a0_9 a0_10) else (if a0_8 > 64 then (manometerref18_Right.j4 kj27 true a0_0 a0_1 a0_2 a0_3 a0_4 a0_5 a0_6 a0_7 a0_8 a0_9 a0_10) else (if a0_9 < 3 then (manometerref18_Right.j4 kj27 true a0_0 a0_1 a0_2 a0_3 a0_4 a0_5 a0_6 a0_7 a0_8 a0_9 a0_10) else (manometerref18_Right.j4 kj27 (decide (a0_9 > 16)) a0_0 a0_1 a0_2 a0_3 a0_4 a0_5 a0_6 a0_7 a0_8 a0_9 a0_10)))) else (manometerref18_Right.j4 kj27 false a0_0 a0_1 a0_2 a0_3 a0_4 a0_5 a0_6 a0_7 a0_8 a0_9 a0_10)) = some r := by rw [if_neg (show ¬ (false = true) by decide)] at H; exact H
                          clear H
                          have H := H1
                          clear H1
                          have HC39 := Aside0.mk H
                          clear H
                          go_upto_region 10 with (fail)
                          go_cut [55] (fun v55 wc => ∃ (kq : Nat) (x55_38 : Bool), v55 = .bool x55_38 ∧ Aside0 (manometerref18_Right.j4 kq x55_38 a0_0 a0_1 a0_2 a0_3 a0_4 a0_5 a0_6 a0_7 a0_8 a0_9 a0_10 = some r) ∧ Aside0 (kq ≤ kj27) ∧ Aside0 (wc.heap[gb237]? = some (.cells #[.int .i64 a0_0, .string a0_1, .int .i64 a0_2, .string a0_3, .int .i64 a0_4, .int .i64 a0_5, .int .i64 a0_6, .int .i64 a0_7, .int .i64 a0_8, .int .i64 a0_9, .string a0_10] 27 (0, 0))) ∧ Aside0 (Below w.heap.size w wc))
                          case first =>
                            have H := HC39.out
                            clear HC39
                            by_cases c40 : a0_0 = 0
                            · rw [if_pos c40] at H
                              have c40b0 : (a0_0 == 0) = true := beq_iff_eq.mpr c40
                              have c40b1 : (a0_0 != 0) = false := bne_eq_false_iff_eq.mpr c40
                              have EQc40 := Aside0.mk c40
                              clear c40
                              (first | rw [c40b0] | (simp only [i64_w, i32_w, xu32_w, xu8_w]; rw [c40b0]) | skip)
                              by_cases c41 : a0_8 < 1
                              · rw [if_pos c41] at H
                                have c41b0 : decide (a0_8 < 1) = true := decide_eq_true c41
                                clear c41
                                have H' := Aside0.mk H
                                clear H
                                have hcz42_0 : wc.cell? ⟨gb237, 0, none⟩ = some (.int .i64 a0_0) := (blk_cell BK237.out 0).trans rfl
                                have hcz42_1 : wc.cell? ⟨gb237, 1, none⟩ = some (.string a0_1) := (blk_cell BK237.out 1).trans rfl
                                have hcz42_2 : wc.cell? ⟨gb237, 2, none⟩ = some (.int .i64 a0_2) := (blk_cell BK237.out 2).trans rfl
                                have hcz42_3 : wc.cell? ⟨gb237, 3, none⟩ = some (.string a0_3) := (blk_cell BK237.out 3).trans rfl
                                have hcz42_4 : wc.cell? ⟨gb237, 4, none⟩ = some (.int .i64 a0_4) := (blk_cell BK237.out 4).trans rfl
                                have hcz42_5 : wc.cell? ⟨gb237, 5, none⟩ = some (.int .i64 a0_5) := (blk_cell BK237.out 5).trans rfl
                                have hcz42_6 : wc.cell? ⟨gb237, 6, none⟩ = some (.int .i64 a0_6) := (blk_cell BK237.out 6).trans rfl
                                have hcz42_7 : wc.cell? ⟨gb237, 7, none⟩ = some (.int .i64 a0_7) := (blk_cell BK237.out 7).trans rfl
                                have hcz42_8 : wc.cell? ⟨gb237, 8, none⟩ = some (.int .i64 a0_8) := (blk_cell BK237.out 8).trans rfl
                                have hcz42_9 : wc.cell? ⟨gb237, 9, none⟩ = some (.int .i64 a0_9) := (blk_cell BK237.out 9).trans rfl
                                have hcz42_10 : wc.cell? ⟨gb237, 10, none⟩ = some (.string a0_10) := (blk_cell BK237.out 10).trans rfl
                                have hfz42_0 := blk_frozen BK237.out 0
                                have hfz42_1 := blk_frozen BK237.out 1
                                have hfz42_2 := blk_frozen BK237.out 2
                                have hfz42_3 := blk_frozen BK237.out 3
                                have hfz42_4 := blk_frozen BK237.out 4
                                have hfz42_5 := blk_frozen BK237.out 5
                                have hfz42_6 := blk_frozen BK237.out 6
                                have hfz42_7 := blk_frozen BK237.out 7
                                have hfz42_8 := blk_frozen BK237.out 8
                                have hfz42_9 := blk_frozen BK237.out 9
                                have hfz42_10 := blk_frozen BK237.out 10
                                go_wp2
                                obtain rfl := EQc40.out
                                go_meet
                                case rel => exact ⟨_, (true), (by first | rfl | (simp; done) | (simp [*]; done)), H', ⟨by have := HJ1.out; have := HJ9.out; have := HJ20.out; have := HJ27.out; first | omega | exact Nat.le_refl _⟩, ⟨by (with_reducible repeat (first | refine blk_drewN ?_ _ | refine blk_drew ?_ | refine blk_alloc ?_ _)); exact BK237.out⟩, ⟨by repeat (first | (with_reducible first | exact HB.out | apply below_alloc | apply pw_below_drewN | apply below_drew1 | refine below_set ?_ GE237.out) | exact HB.out)⟩⟩
                              · rw [if_neg c41] at H
                                have c41b0 : decide (a0_8 < 1) = false := decide_eq_false c41
                                clear c41
                                by_cases c43 : a0_8 > 64
                                · rw [if_pos c43] at H
                                  have c43b0 : decide (64 < a0_8) = true := decide_eq_true c43
                                  clear c43
                                  have H' := Aside0.mk H
                                  clear H
                                  have hcz44_0 : wc.cell? ⟨gb237, 0, none⟩ = some (.int .i64 a0_0) := (blk_cell BK237.out 0).trans rfl
                                  have hcz44_1 : wc.cell? ⟨gb237, 1, none⟩ = some (.string a0_1) := (blk_cell BK237.out 1).trans rfl
                                  have hcz44_2 : wc.cell? ⟨gb237, 2, none⟩ = some (.int .i64 a0_2) := (blk_cell BK237.out 2).trans rfl
                                  have hcz44_3 : wc.cell? ⟨gb237, 3, none⟩ = some (.string a0_3) := (blk_cell BK237.out 3).trans rfl
                                  have hcz44_4 : wc.cell? ⟨gb237, 4, none⟩ = some (.int .i64 a0_4) := (blk_cell BK237.out 4).trans rfl
                                  have hcz44_5 : wc.cell? ⟨gb237, 5, none⟩ = some (.int .i64 a0_5) := (blk_cell BK237.out 5).trans rfl
                                  have hcz44_6 : wc.cell? ⟨gb237, 6, none⟩ = some (.int .i64 a0_6) := (blk_cell BK237.out 6).trans rfl
                                  have hcz44_7 : wc.cell? ⟨gb237, 7, none⟩ = some (.int .i64 a0_7) := (blk_cell BK237.out 7).trans rfl
                                  have hcz44_8 : wc.cell? ⟨gb237, 8, none⟩ = some (.int .i64 a0_8) := (blk_cell BK237.out 8).trans rfl
                                  have hcz44_9 : wc.cell? ⟨gb237, 9, none⟩ = some (.int .i64 a0_9) := (blk_cell BK237.out 9).trans rfl
                                  have hcz44_10 : wc.cell? ⟨gb237, 10, none⟩ = some (.string a0_10) := (blk_cell BK237.out 10).trans rfl
                                  have hfz44_0 := blk_frozen BK237.out 0
                                  have hfz44_1 := blk_frozen BK237.out 1
                                  have hfz44_2 := blk_frozen BK237.out 2
                                  have hfz44_3 := blk_frozen BK237.out 3
                                  have hfz44_4 := blk_frozen BK237.out 4
                                  have hfz44_5 := blk_frozen BK237.out 5
                                  have hfz44_6 := blk_frozen BK237.out 6
                                  have hfz44_7 := blk_frozen BK237.out 7
                                  have hfz44_8 := blk_frozen BK237.out 8
                                  have hfz44_9 := blk_frozen BK237.out 9
                                  have hfz44_10 := blk_frozen BK237.out 10
                                  go_wp2
                                  obtain rfl := EQc40.out
                                  go_meet
                                  case rel => exact ⟨_, (true), (by first | rfl | (simp; done) | (simp [*]; done)), H', ⟨by have := HJ1.out; have := HJ9.out; have := HJ20.out; have := HJ27.out; first | omega | exact Nat.le_refl _⟩, ⟨by (with_reducible repeat (first | refine blk_drewN ?_ _ | refine blk_drew ?_ | refine blk_alloc ?_ _)); exact BK237.out⟩, ⟨by repeat (first | (with_reducible first | exact HB.out | apply below_alloc | apply pw_below_drewN | apply below_drew1 | refine below_set ?_ GE237.out) | exact HB.out)⟩⟩
                                · rw [if_neg c43] at H
                                  have c43b0 : decide (64 < a0_8) = false := decide_eq_false c43
                                  clear c43
                                  by_cases c45 : a0_9 < 3
                                  · rw [if_pos c45] at H
                                    have c45b0 : decide (a0_9 < 3) = true := decide_eq_true c45
                                    clear c45
                                    have H' := Aside0.mk H
                                    clear H
                                    have hcz46_0 : wc.cell? ⟨gb237, 0, none⟩ = some (.int .i64 a0_0) := (blk_cell BK237.out 0).trans rfl
                                    have hcz46_1 : wc.cell? ⟨gb237, 1, none⟩ = some (.string a0_1) := (blk_cell BK237.out 1).trans rfl
                                    have hcz46_2 : wc.cell? ⟨gb237, 2, none⟩ = some (.int .i64 a0_2) := (blk_cell BK237.out 2).trans rfl
                                    have hcz46_3 : wc.cell? ⟨gb237, 3, none⟩ = some (.string a0_3) := (blk_cell BK237.out 3).trans rfl
                                    have hcz46_4 : wc.cell? ⟨gb237, 4, none⟩ = some (.int .i64 a0_4) := (blk_cell BK237.out 4).trans rfl
                                    have hcz46_5 : wc.cell? ⟨gb237, 5, none⟩ = some (.int .i64 a0_5) := (blk_cell BK237.out 5).trans rfl
                                    have hcz46_6 : wc.cell? ⟨gb237, 6, none⟩ = some (.int .i64 a0_6) := (blk_cell BK237.out 6).trans rfl
                                    have hcz46_7 : wc.cell? ⟨gb237, 7, none⟩ = some (.int .i64 a0_7) := (blk_cell BK237.out 7).trans rfl
                                    have hcz46_8 : wc.cell? ⟨gb237, 8, none⟩ = some (.int .i64 a0_8) := (blk_cell BK237.out 8).trans rfl
                                    have hcz46_9 : wc.cell? ⟨gb237, 9, none⟩ = some (.int .i64 a0_9) := (blk_cell BK237.out 9).trans rfl
                                    have hcz46_10 : wc.cell? ⟨gb237, 10, none⟩ = some (.string a0_10) := (blk_cell BK237.out 10).trans rfl
                                    have hfz46_0 := blk_frozen BK237.out 0
                                    have hfz46_1 := blk_frozen BK237.out 1
                                    have hfz46_2 := blk_frozen BK237.out 2
                                    have hfz46_3 := blk_frozen BK237.out 3
                                    have hfz46_4 := blk_frozen BK237.out 4
                                    have hfz46_5 := blk_frozen BK237.out 5
                                    have hfz46_6 := blk_frozen BK237.out 6
                                    have hfz46_7 := blk_frozen BK237.out 7
                                    have hfz46_8 := blk_frozen BK237.out 8
                                    have hfz46_9 := blk_frozen BK237.out 9
                                    have hfz46_10 := blk_frozen BK237.out 10
                                    go_wp2
                                    obtain rfl := EQc40.out
                                    go_meet
                                    case rel => exact ⟨_, (true), (by first | rfl | (simp; done) | (simp [*]; done)), H', ⟨by have := HJ1.out; have := HJ9.out; have := HJ20.out; have := HJ27.out; first | omega | exact Nat.le_refl _⟩, ⟨by (with_reducible repeat (first | refine blk_drewN ?_ _ | refine blk_drew ?_ | refine blk_alloc ?_ _)); exact BK237.out⟩, ⟨by repeat (first | (with_reducible first | exact HB.out | apply below_alloc | apply pw_below_drewN | apply below_drew1 | refine below_set ?_ GE237.out) | exact HB.out)⟩⟩
                                  · rw [if_neg c45] at H
                                    have c45b0 : decide (a0_9 < 3) = false := decide_eq_false c45
                                    clear c45
                                    have H' := Aside0.mk H
                                    clear H
                                    have hcz47_0 : wc.cell? ⟨gb237, 0, none⟩ = some (.int .i64 a0_0) := (blk_cell BK237.out 0).trans rfl
                                    have hcz47_1 : wc.cell? ⟨gb237, 1, none⟩ = some (.string a0_1) := (blk_cell BK237.out 1).trans rfl
                                    have hcz47_2 : wc.cell? ⟨gb237, 2, none⟩ = some (.int .i64 a0_2) := (blk_cell BK237.out 2).trans rfl
                                    have hcz47_3 : wc.cell? ⟨gb237, 3, none⟩ = some (.string a0_3) := (blk_cell BK237.out 3).trans rfl
                                    have hcz47_4 : wc.cell? ⟨gb237, 4, none⟩ = some (.int .i64 a0_4) := (blk_cell BK237.out 4).trans rfl
                                    have hcz47_5 : wc.cell? ⟨gb237, 5, none⟩ = some (.int .i64 a0_5) := (blk_cell BK237.out 5).trans rfl
                                    have hcz47_6 : wc.cell? ⟨gb237, 6, none⟩ = some (.int .i64 a0_6) := (blk_cell BK237.out 6).trans rfl
                                    have hcz47_7 : wc.cell? ⟨gb237, 7, none⟩ = some (.int .i64 a0_7) := (blk_cell BK237.out 7).trans rfl
                                    have hcz47_8 : wc.cell? ⟨gb237, 8, none⟩ = some (.int .i64 a0_8) := (blk_cell BK237.out 8).trans rfl
                                    have hcz47_9 : wc.cell? ⟨gb237, 9, none⟩ = some (.int .i64 a0_9) := (blk_cell BK237.out 9).trans rfl
                                    have hcz47_10 : wc.cell? ⟨gb237, 10, none⟩ = some (.string a0_10) := (blk_cell BK237.out 10).trans rfl
                                    have hfz47_0 := blk_frozen BK237.out 0
                                    have hfz47_1 := blk_frozen BK237.out 1
                                    have hfz47_2 := blk_frozen BK237.out 2
                                    have hfz47_3 := blk_frozen BK237.out 3
                                    have hfz47_4 := blk_frozen BK237.out 4
                                    have hfz47_5 := blk_frozen BK237.out 5
                                    have hfz47_6 := blk_frozen BK237.out 6
                                    have hfz47_7 := blk_frozen BK237.out 7
                                    have hfz47_8 := blk_frozen BK237.out 8
                                    have hfz47_9 := blk_frozen BK237.out 9
                                    have hfz47_10 := blk_frozen BK237.out 10
                                    go_wp2
                                    obtain rfl := EQc40.out
                                    go_meet
                                    case rel => exact ⟨_, (decide (a0_9 > 16)), (by first | rfl | (simp; done) | (simp [*]; done)), H', ⟨by have := HJ1.out; have := HJ9.out; have := HJ20.out; have := HJ27.out; first | omega | exact Nat.le_refl _⟩, ⟨by (with_reducible repeat (first | refine blk_drewN ?_ _ | refine blk_drew ?_ | refine blk_alloc ?_ _)); exact BK237.out⟩, ⟨by repeat (first | (with_reducible first | exact HB.out | apply below_alloc | apply pw_below_drewN | apply below_drew1 | refine below_set ?_ GE237.out) | exact HB.out)⟩⟩
                            · rw [if_neg c40] at H
                              have c40b0 : (a0_0 == 0) = false := beq_eq_false_iff_ne.mpr c40
                              have c40b1 : (a0_0 != 0) = true := bne_iff_ne.mpr c40
                              (first | rw [c40b0] | (simp only [i64_w, i32_w, xu32_w, xu8_w]; rw [c40b0]) | skip)
                              have H' := Aside0.mk H
                              clear H
                              have hcz48_0 : wc.cell? ⟨gb237, 0, none⟩ = some (.int .i64 a0_0) := (blk_cell BK237.out 0).trans rfl
                              have hcz48_1 : wc.cell? ⟨gb237, 1, none⟩ = some (.string a0_1) := (blk_cell BK237.out 1).trans rfl
                              have hcz48_2 : wc.cell? ⟨gb237, 2, none⟩ = some (.int .i64 a0_2) := (blk_cell BK237.out 2).trans rfl
                              have hcz48_3 : wc.cell? ⟨gb237, 3, none⟩ = some (.string a0_3) := (blk_cell BK237.out 3).trans rfl
                              have hcz48_4 : wc.cell? ⟨gb237, 4, none⟩ = some (.int .i64 a0_4) := (blk_cell BK237.out 4).trans rfl
                              have hcz48_5 : wc.cell? ⟨gb237, 5, none⟩ = some (.int .i64 a0_5) := (blk_cell BK237.out 5).trans rfl
                              have hcz48_6 : wc.cell? ⟨gb237, 6, none⟩ = some (.int .i64 a0_6) := (blk_cell BK237.out 6).trans rfl
                              have hcz48_7 : wc.cell? ⟨gb237, 7, none⟩ = some (.int .i64 a0_7) := (blk_cell BK237.out 7).trans rfl
                              have hcz48_8 : wc.cell? ⟨gb237, 8, none⟩ = some (.int .i64 a0_8) := (blk_cell BK237.out 8).trans rfl
                              have hcz48_9 : wc.cell? ⟨gb237, 9, none⟩ = some (.int .i64 a0_9) := (blk_cell BK237.out 9).trans rfl
                              have hcz48_10 : wc.cell? ⟨gb237, 10, none⟩ = some (.string a0_10) := (blk_cell BK237.out 10).trans rfl
                              have hfz48_0 := blk_frozen BK237.out 0
                              have hfz48_1 := blk_frozen BK237.out 1
                              have hfz48_2 := blk_frozen BK237.out 2
                              have hfz48_3 := blk_frozen BK237.out 3
                              have hfz48_4 := blk_frozen BK237.out 4
                              have hfz48_5 := blk_frozen BK237.out 5
                              have hfz48_6 := blk_frozen BK237.out 6
                              have hfz48_7 := blk_frozen BK237.out 7
                              have hfz48_8 := blk_frozen BK237.out 8
                              have hfz48_9 := blk_frozen BK237.out 9
                              have hfz48_10 := blk_frozen BK237.out 10
                              go_wp2
                              go_meet
                              case rel => exact ⟨_, (false), (by first | rfl | (simp; done) | (simp [*]; done)), H', ⟨by have := HJ1.out; have := HJ9.out; have := HJ20.out; have := HJ27.out; first | omega | exact Nat.le_refl _⟩, ⟨by (with_reducible repeat (first | refine blk_drewN ?_ _ | refine blk_drew ?_ | refine blk_alloc ?_ _)); exact BK237.out⟩, ⟨by repeat (first | (with_reducible first | exact HB.out | apply below_alloc | apply pw_below_drewN | apply below_drew1 | refine below_set ?_ GE237.out) | exact HB.out)⟩⟩
                          case rest =>
                            clear HC39
                            try clear c1
                            try clear c2
                            try clear p2
                            try clear c3
                            try clear c4
                            try clear c4b0
                            try clear c7
                            try clear c9
                            try clear c12
                            try clear c12b0
                            try clear c12b1
                            try clear c16
                            try clear c16b0
                            try clear c16b1
                            try clear c22
                            try clear c23
                            try clear c23b0
                            try clear c23b1
                            try clear c27
                            try clear c29
                            try clear c29b0
                            try clear c29b1
                            try clear c33
                            try clear c33b0
                            try clear c33b1
                            try clear c38
                            try clear c40
                            try clear c40b0
                            try clear c40b1
                            try clear c41
                            try clear c41b0
                            try clear c43
                            try clear c43b0
                            try clear c45
                            try clear c45b0
                            try clear hcz11_0
                            try clear hcz11_1
                            try clear hcz11_10
                            try clear hcz11_2
                            try clear hcz11_3
                            try clear hcz11_4
                            try clear hcz11_5
                            try clear hcz11_6
                            try clear hcz11_7
                            try clear hcz11_8
                            try clear hcz11_9
                            try clear hcz14_0
                            try clear hcz14_1
                            try clear hcz14_10
                            try clear hcz14_2
                            try clear hcz14_3
                            try clear hcz14_4
                            try clear hcz14_5
                            try clear hcz14_6
                            try clear hcz14_7
                            try clear hcz14_8
                            try clear hcz14_9
                            try clear hcz18_0
                            try clear hcz18_1
                            try clear hcz18_10
                            try clear hcz18_2
                            try clear hcz18_3
                            try clear hcz18_4
                            try clear hcz18_5
                            try clear hcz18_6
                            try clear hcz18_7
                            try clear hcz18_8
                            try clear hcz18_9
                            try clear hcz20_0
                            try clear hcz20_1
                            try clear hcz20_10
                            try clear hcz20_2
                            try clear hcz20_3
                            try clear hcz20_4
                            try clear hcz20_5
                            try clear hcz20_6
                            try clear hcz20_7
                            try clear hcz20_8
                            try clear hcz20_9
                            try clear hcz25_0
                            try clear hcz25_1
                            try clear hcz25_10
                            try clear hcz25_2
                            try clear hcz25_3
                            try clear hcz25_4
                            try clear hcz25_5
                            try clear hcz25_6
                            try clear hcz25_7
                            try clear hcz25_8
                            try clear hcz25_9
                            try clear hcz26_0
                            try clear hcz26_1
                            try clear hcz26_10
                            try clear hcz26_2
                            try clear hcz26_3
                            try clear hcz26_4
                            try clear hcz26_5
                            try clear hcz26_6
                            try clear hcz26_7
                            try clear hcz26_8
                            try clear hcz26_9
                            try clear hcz31_0
                            try clear hcz31_1
                            try clear hcz31_10
                            try clear hcz31_2
                            try clear hcz31_3
                            try clear hcz31_4
                            try clear hcz31_5
                            try clear hcz31_6
                            try clear hcz31_7
                            try clear hcz31_8
                            try clear hcz31_9
                            try clear hcz35_0
                            try clear hcz35_1
                            try clear hcz35_10
                            try clear hcz35_2
                            try clear hcz35_3
                            try clear hcz35_4
                            try clear hcz35_5
                            try clear hcz35_6
                            try clear hcz35_7
                            try clear hcz35_8
                            try clear hcz35_9
                            try clear hcz37_0
                            try clear hcz37_1
                            try clear hcz37_10
                            try clear hcz37_2
                            try clear hcz37_3
                            try clear hcz37_4
                            try clear hcz37_5
                            try clear hcz37_6
                            try clear hcz37_7
                            try clear hcz37_8
                            try clear hcz37_9
                            try clear hcz42_0
                            try clear hcz42_1
                            try clear hcz42_10
                            try clear hcz42_2
                            try clear hcz42_3
                            try clear hcz42_4
                            try clear hcz42_5
                            try clear hcz42_6
                            try clear hcz42_7
                            try clear hcz42_8
                            try clear hcz42_9
                            try clear hcz44_0
                            try clear hcz44_1
                            try clear hcz44_10
                            try clear hcz44_2
                            try clear hcz44_3
                            try clear hcz44_4
                            try clear hcz44_5
                            try clear hcz44_6
                            try clear hcz44_7
                            try clear hcz44_8
                            try clear hcz44_9
                            try clear hcz46_0
                            try clear hcz46_1
                            try clear hcz46_10
                            try clear hcz46_2
                            try clear hcz46_3
                            try clear hcz46_4
                            try clear hcz46_5
                            try clear hcz46_6
                            try clear hcz46_7
                            try clear hcz46_8
                            try clear hcz46_9
                            try clear hcz47_0
                            try clear hcz47_1
                            try clear hcz47_10
                            try clear hcz47_2
                            try clear hcz47_3
                            try clear hcz47_4
                            try clear hcz47_5
                            try clear hcz47_6
                            try clear hcz47_7
                            try clear hcz47_8
                            try clear hcz47_9
                            try clear hcz48_0
                            try clear hcz48_1
                            try clear hcz48_10
                            try clear hcz48_2
                            try clear hcz48_3
                            try clear hcz48_4
                            try clear hcz48_5
                            try clear hcz48_6
                            try clear hcz48_7
                            try clear hcz48_8
                            try clear hcz48_9
                            try clear hcz5_0
                            try clear hcz5_1
                            try clear hcz5_10
                            try clear hcz5_2
                            try clear hcz5_3
                            try clear hcz5_4
                            try clear hcz5_5
                            try clear hcz5_6
                            try clear hcz5_7
                            try clear hcz5_8
                            try clear hcz5_9
                            try clear hcz6_0
                            try clear hcz6_1
                            try clear hcz6_10
                            try clear hcz6_2
                            try clear hcz6_3
                            try clear hcz6_4
                            try clear hcz6_5
                            try clear hcz6_6
                            try clear hcz6_7
                            try clear hcz6_8
                            try clear hcz6_9
                            try clear hfz11_0
                            try clear hfz11_1
                            try clear hfz11_10
                            try clear hfz11_2
                            try clear hfz11_3
                            try clear hfz11_4
                            try clear hfz11_5
                            try clear hfz11_6
                            try clear hfz11_7
                            try clear hfz11_8
                            try clear hfz11_9
                            try clear hfz14_0
                            try clear hfz14_1
                            try clear hfz14_10
                            try clear hfz14_2
                            try clear hfz14_3
                            try clear hfz14_4
                            try clear hfz14_5
                            try clear hfz14_6
                            try clear hfz14_7
                            try clear hfz14_8
                            try clear hfz14_9
                            try clear hfz18_0
                            try clear hfz18_1
                            try clear hfz18_10
                            try clear hfz18_2
                            try clear hfz18_3
                            try clear hfz18_4
                            try clear hfz18_5
                            try clear hfz18_6
                            try clear hfz18_7
                            try clear hfz18_8
                            try clear hfz18_9
                            try clear hfz20_0
                            try clear hfz20_1
                            try clear hfz20_10
                            try clear hfz20_2
                            try clear hfz20_3
                            try clear hfz20_4
                            try clear hfz20_5
                            try clear hfz20_6
                            try clear hfz20_7
                            try clear hfz20_8
                            try clear hfz20_9
                            try clear hfz25_0
                            try clear hfz25_1
                            try clear hfz25_10
                            try clear hfz25_2
                            try clear hfz25_3
                            try clear hfz25_4
                            try clear hfz25_5
                            try clear hfz25_6
                            try clear hfz25_7
                            try clear hfz25_8
                            try clear hfz25_9
                            try clear hfz26_0
                            try clear hfz26_1
                            try clear hfz26_10
                            try clear hfz26_2
                            try clear hfz26_3
                            try clear hfz26_4
                            try clear hfz26_5
                            try clear hfz26_6
                            try clear hfz26_7
                            try clear hfz26_8
                            try clear hfz26_9
                            try clear hfz31_0
                            try clear hfz31_1
                            try clear hfz31_10
                            try clear hfz31_2
                            try clear hfz31_3
                            try clear hfz31_4
                            try clear hfz31_5
                            try clear hfz31_6
                            try clear hfz31_7
                            try clear hfz31_8
                            try clear hfz31_9
                            try clear hfz35_0
                            try clear hfz35_1
                            try clear hfz35_10
                            try clear hfz35_2
                            try clear hfz35_3
                            try clear hfz35_4
                            try clear hfz35_5
                            try clear hfz35_6
                            try clear hfz35_7
                            try clear hfz35_8
                            try clear hfz35_9
                            try clear hfz37_0
                            try clear hfz37_1
                            try clear hfz37_10
                            try clear hfz37_2
                            try clear hfz37_3
                            try clear hfz37_4
                            try clear hfz37_5
                            try clear hfz37_6
                            try clear hfz37_7
                            try clear hfz37_8
                            try clear hfz37_9
                            try clear hfz42_0
                            try clear hfz42_1
                            try clear hfz42_10
                            try clear hfz42_2
                            try clear hfz42_3
                            try clear hfz42_4
                            try clear hfz42_5
                            try clear hfz42_6
                            try clear hfz42_7
                            try clear hfz42_8
                            try clear hfz42_9
                            try clear hfz44_0
                            try clear hfz44_1
                            try clear hfz44_10
                            try clear hfz44_2
                            try clear hfz44_3
                            try clear hfz44_4
                            try clear hfz44_5
                            try clear hfz44_6
                            try clear hfz44_7
                            try clear hfz44_8
                            try clear hfz44_9
                            try clear hfz46_0
                            try clear hfz46_1
                            try clear hfz46_10
                            try clear hfz46_2
                            try clear hfz46_3
                            try clear hfz46_4
                            try clear hfz46_5
                            try clear hfz46_6
                            try clear hfz46_7
                            try clear hfz46_8
                            try clear hfz46_9
                            try clear hfz47_0
                            try clear hfz47_1
                            try clear hfz47_10
                            try clear hfz47_2
                            try clear hfz47_3
                            try clear hfz47_4
                            try clear hfz47_5
                            try clear hfz47_6
                            try clear hfz47_7
                            try clear hfz47_8
                            try clear hfz47_9
                            try clear hfz48_0
                            try clear hfz48_1
                            try clear hfz48_10
                            try clear hfz48_2
                            try clear hfz48_3
                            try clear hfz48_4
                            try clear hfz48_5
                            try clear hfz48_6
                            try clear hfz48_7
                            try clear hfz48_8
                            try clear hfz48_9
                            try clear hfz5_0
                            try clear hfz5_1
                            try clear hfz5_10
                            try clear hfz5_2
                            try clear hfz5_3
                            try clear hfz5_4
                            try clear hfz5_5
                            try clear hfz5_6
                            try clear hfz5_7
                            try clear hfz5_8
                            try clear hfz5_9
                            try clear hfz6_0
                            try clear hfz6_1
                            try clear hfz6_10
                            try clear hfz6_2
                            try clear hfz6_3
                            try clear hfz6_4
                            try clear hfz6_5
                            try clear hfz6_6
                            try clear hfz6_7
                            try clear hfz6_8
                            try clear hfz6_9
                            try clear p2
                            obtain ⟨kq, x55_38, rfl, HA, HJ38, BK237, HB⟩ := hcut
                            cases kq with
                            | zero => exact absurd HA.out (by simp [manometerref18_Right.j4])
                            | succ kj38 =>
                              have H := HA.out
                              clear HA
                              simp only [manometerref18_Right.j4] at H
                              by_cases c49 : x55_38 = true
                              · subst c49
                                have H1 : (some 183) = some r := by rw [if_pos rfl] at H; exact H
                                clear H
                                have H := H1
                                clear H1
                                obtain rfl := Option.some.inj H
                                go_wp2
                                go_ret
                                exact ⟨by first | rfl | (simp [errW_none, errW_some] <;> rfl) | (simp [*, errW_none, errW_some] <;> rfl), by repeat (first | (with_reducible first | exact HB.out | apply below_alloc | apply pw_below_drewN | apply below_drew1 | refine below_set ?_ GE237.out) | exact HB.out)⟩
                              · replace c49 := Bool.eq_false_iff.mpr c49
                                subst c49
                                have H1 : (if a0_0 < 4 then (some 0) else ((manometerref18_Named.f kj38 a0_10).bind fun t244 => (if t244 = true then (if a0_10.toList = a0_1.toList then (some 182) else (some 0)) else (some 50)))) = some r := by rw [if_neg (show ¬ (false = true) by decide)] at H; exact H
                                clear H
                                have H := H1
                                clear H1
                                by_cases c50 : a0_0 < 4
                                · rw [if_pos c50] at H
                                  have c50b0 : decide (a0_0 < 4) = true := decide_eq_true c50
                                  clear c50
                                  obtain rfl := Option.some.inj H
                                  have hcz51_0 : wc.cell? ⟨gb237, 0, none⟩ = some (.int .i64 a0_0) := (blk_cell BK237.out 0).trans rfl
                                  have hcz51_1 : wc.cell? ⟨gb237, 1, none⟩ = some (.string a0_1) := (blk_cell BK237.out 1).trans rfl
                                  have hcz51_2 : wc.cell? ⟨gb237, 2, none⟩ = some (.int .i64 a0_2) := (blk_cell BK237.out 2).trans rfl
                                  have hcz51_3 : wc.cell? ⟨gb237, 3, none⟩ = some (.string a0_3) := (blk_cell BK237.out 3).trans rfl
                                  have hcz51_4 : wc.cell? ⟨gb237, 4, none⟩ = some (.int .i64 a0_4) := (blk_cell BK237.out 4).trans rfl
                                  have hcz51_5 : wc.cell? ⟨gb237, 5, none⟩ = some (.int .i64 a0_5) := (blk_cell BK237.out 5).trans rfl
                                  have hcz51_6 : wc.cell? ⟨gb237, 6, none⟩ = some (.int .i64 a0_6) := (blk_cell BK237.out 6).trans rfl
                                  have hcz51_7 : wc.cell? ⟨gb237, 7, none⟩ = some (.int .i64 a0_7) := (blk_cell BK237.out 7).trans rfl
                                  have hcz51_8 : wc.cell? ⟨gb237, 8, none⟩ = some (.int .i64 a0_8) := (blk_cell BK237.out 8).trans rfl
                                  have hcz51_9 : wc.cell? ⟨gb237, 9, none⟩ = some (.int .i64 a0_9) := (blk_cell BK237.out 9).trans rfl
                                  have hcz51_10 : wc.cell? ⟨gb237, 10, none⟩ = some (.string a0_10) := (blk_cell BK237.out 10).trans rfl
                                  have hfz51_0 := blk_frozen BK237.out 0
                                  have hfz51_1 := blk_frozen BK237.out 1
                                  have hfz51_2 := blk_frozen BK237.out 2
                                  have hfz51_3 := blk_frozen BK237.out 3
                                  have hfz51_4 := blk_frozen BK237.out 4
                                  have hfz51_5 := blk_frozen BK237.out 5
                                  have hfz51_6 := blk_frozen BK237.out 6
                                  have hfz51_7 := blk_frozen BK237.out 7
                                  have hfz51_8 := blk_frozen BK237.out 8
                                  have hfz51_9 := blk_frozen BK237.out 9
                                  have hfz51_10 := blk_frozen BK237.out 10
                                  go_wp2
                                  go_ret
                                  exact ⟨by first | rfl | (simp [errW_none, errW_some] <;> rfl) | (simp [*, errW_none, errW_some] <;> rfl), by repeat (first | (with_reducible first | exact HB.out | apply below_alloc | apply pw_below_drewN | apply below_drew1 | refine below_set ?_ GE237.out) | exact HB.out)⟩
                                · rw [if_neg c50] at H
                                  have c50b0 : decide (a0_0 < 4) = false := decide_eq_false c50
                                  clear c50
                                  replace H := Option.bind_eq_some_iff.mp H
                                  obtain ⟨t244, A520, H⟩ := H
                                  replace H : (if t244 = true then (if a0_10.toList = a0_1.toList then (some 182) else (some 0)) else (some 50)) = some r := H
                                  have A52 := Aside0.mk A520
                                  clear A520
                                  by_cases c53 : t244 = true
                                  · subst c53
                                    have H1 : (if a0_10.toList = a0_1.toList then (some 182) else (some 0)) = some r := by rw [if_pos rfl] at H; exact H
                                    clear H
                                    have H := H1
                                    clear H1
                                    by_cases c54 : a0_10.toList = a0_1.toList
                                    · rw [if_pos c54] at H
                                      have c54b0 : (a0_10.toList == a0_1.toList) = true := beq_iff_eq.mpr c54
                                      have c54b1 : (a0_10.toList != a0_1.toList) = false := bne_eq_false_iff_eq.mpr c54
                                      clear c54
                                      obtain rfl := Option.some.inj H
                                      have hcz55_0 : wc.cell? ⟨gb237, 0, none⟩ = some (.int .i64 a0_0) := (blk_cell BK237.out 0).trans rfl
                                      have hcz55_1 : wc.cell? ⟨gb237, 1, none⟩ = some (.string a0_1) := (blk_cell BK237.out 1).trans rfl
                                      have hcz55_2 : wc.cell? ⟨gb237, 2, none⟩ = some (.int .i64 a0_2) := (blk_cell BK237.out 2).trans rfl
                                      have hcz55_3 : wc.cell? ⟨gb237, 3, none⟩ = some (.string a0_3) := (blk_cell BK237.out 3).trans rfl
                                      have hcz55_4 : wc.cell? ⟨gb237, 4, none⟩ = some (.int .i64 a0_4) := (blk_cell BK237.out 4).trans rfl
                                      have hcz55_5 : wc.cell? ⟨gb237, 5, none⟩ = some (.int .i64 a0_5) := (blk_cell BK237.out 5).trans rfl
                                      have hcz55_6 : wc.cell? ⟨gb237, 6, none⟩ = some (.int .i64 a0_6) := (blk_cell BK237.out 6).trans rfl
                                      have hcz55_7 : wc.cell? ⟨gb237, 7, none⟩ = some (.int .i64 a0_7) := (blk_cell BK237.out 7).trans rfl
                                      have hcz55_8 : wc.cell? ⟨gb237, 8, none⟩ = some (.int .i64 a0_8) := (blk_cell BK237.out 8).trans rfl
                                      have hcz55_9 : wc.cell? ⟨gb237, 9, none⟩ = some (.int .i64 a0_9) := (blk_cell BK237.out 9).trans rfl
                                      have hcz55_10 : wc.cell? ⟨gb237, 10, none⟩ = some (.string a0_10) := (blk_cell BK237.out 10).trans rfl
                                      have hfz55_0 := blk_frozen BK237.out 0
                                      have hfz55_1 := blk_frozen BK237.out 1
                                      have hfz55_2 := blk_frozen BK237.out 2
                                      have hfz55_3 := blk_frozen BK237.out 3
                                      have hfz55_4 := blk_frozen BK237.out 4
                                      have hfz55_5 := blk_frozen BK237.out 5
                                      have hfz55_6 := blk_frozen BK237.out 6
                                      have hfz55_7 := blk_frozen BK237.out 7
                                      have hfz55_8 := blk_frozen BK237.out 8
                                      have hfz55_9 := blk_frozen BK237.out 9
                                      have hfz55_10 := blk_frozen BK237.out 10
                                      go_wp2_with (first | ((with_reducible refine gate_callee (f := 34) rfl ?_); refine goesL_ (some 86) rfl rfl Try.func34 (by kernel_rfl) rfl #[.string a0_10] rfl (by (try simp only [List.map_toArray, List.map_cons, List.map_nil]); first | done | rfl | (simp only [List.length_drop, List.length_take]; rfl)) ?_; (with_reducible refine (manometerref18_Named.calls kj38 a0_10 true _ A52.out).mono ?_); rintro e w' ⟨rfl, ⟨nd, rfl⟩⟩; refine ⟨_, rfl, ?_⟩))
                                      go_ret
                                      exact ⟨by first | rfl | (simp [errW_none, errW_some] <;> rfl) | (simp [*, errW_none, errW_some] <;> rfl), by repeat (first | (with_reducible first | exact HB.out | apply below_alloc | apply pw_below_drewN | apply below_drew1 | refine below_set ?_ GE237.out) | exact HB.out)⟩
                                    · rw [if_neg c54] at H
                                      have c54b0 : (a0_10.toList == a0_1.toList) = false := beq_eq_false_iff_ne.mpr c54
                                      have c54b1 : (a0_10.toList != a0_1.toList) = true := bne_iff_ne.mpr c54
                                      obtain rfl := Option.some.inj H
                                      have hcz56_0 : wc.cell? ⟨gb237, 0, none⟩ = some (.int .i64 a0_0) := (blk_cell BK237.out 0).trans rfl
                                      have hcz56_1 : wc.cell? ⟨gb237, 1, none⟩ = some (.string a0_1) := (blk_cell BK237.out 1).trans rfl
                                      have hcz56_2 : wc.cell? ⟨gb237, 2, none⟩ = some (.int .i64 a0_2) := (blk_cell BK237.out 2).trans rfl
                                      have hcz56_3 : wc.cell? ⟨gb237, 3, none⟩ = some (.string a0_3) := (blk_cell BK237.out 3).trans rfl
                                      have hcz56_4 : wc.cell? ⟨gb237, 4, none⟩ = some (.int .i64 a0_4) := (blk_cell BK237.out 4).trans rfl
                                      have hcz56_5 : wc.cell? ⟨gb237, 5, none⟩ = some (.int .i64 a0_5) := (blk_cell BK237.out 5).trans rfl
                                      have hcz56_6 : wc.cell? ⟨gb237, 6, none⟩ = some (.int .i64 a0_6) := (blk_cell BK237.out 6).trans rfl
                                      have hcz56_7 : wc.cell? ⟨gb237, 7, none⟩ = some (.int .i64 a0_7) := (blk_cell BK237.out 7).trans rfl
                                      have hcz56_8 : wc.cell? ⟨gb237, 8, none⟩ = some (.int .i64 a0_8) := (blk_cell BK237.out 8).trans rfl
                                      have hcz56_9 : wc.cell? ⟨gb237, 9, none⟩ = some (.int .i64 a0_9) := (blk_cell BK237.out 9).trans rfl
                                      have hcz56_10 : wc.cell? ⟨gb237, 10, none⟩ = some (.string a0_10) := (blk_cell BK237.out 10).trans rfl
                                      have hfz56_0 := blk_frozen BK237.out 0
                                      have hfz56_1 := blk_frozen BK237.out 1
                                      have hfz56_2 := blk_frozen BK237.out 2
                                      have hfz56_3 := blk_frozen BK237.out 3
                                      have hfz56_4 := blk_frozen BK237.out 4
                                      have hfz56_5 := blk_frozen BK237.out 5
                                      have hfz56_6 := blk_frozen BK237.out 6
                                      have hfz56_7 := blk_frozen BK237.out 7
                                      have hfz56_8 := blk_frozen BK237.out 8
                                      have hfz56_9 := blk_frozen BK237.out 9
                                      have hfz56_10 := blk_frozen BK237.out 10
                                      go_wp2_with (first | ((with_reducible refine gate_callee (f := 34) rfl ?_); refine goesL_ (some 86) rfl rfl Try.func34 (by kernel_rfl) rfl #[.string a0_10] rfl (by (try simp only [List.map_toArray, List.map_cons, List.map_nil]); first | done | rfl | (simp only [List.length_drop, List.length_take]; rfl)) ?_; (with_reducible refine (manometerref18_Named.calls kj38 a0_10 true _ A52.out).mono ?_); rintro e w' ⟨rfl, ⟨nd, rfl⟩⟩; refine ⟨_, rfl, ?_⟩))
                                      go_ret
                                      exact ⟨by first | rfl | (simp [errW_none, errW_some] <;> rfl) | (simp [*, errW_none, errW_some] <;> rfl), by repeat (first | (with_reducible first | exact HB.out | apply below_alloc | apply pw_below_drewN | apply below_drew1 | refine below_set ?_ GE237.out) | exact HB.out)⟩
                                  · replace c53 := Bool.eq_false_iff.mpr c53
                                    subst c53
                                    have H1 : (some 50) = some r := by rw [if_neg (show ¬ (false = true) by decide)] at H; exact H
                                    clear H
                                    have H := H1
                                    clear H1
                                    obtain rfl := Option.some.inj H
                                    have hcz57_0 : wc.cell? ⟨gb237, 0, none⟩ = some (.int .i64 a0_0) := (blk_cell BK237.out 0).trans rfl
                                    have hcz57_1 : wc.cell? ⟨gb237, 1, none⟩ = some (.string a0_1) := (blk_cell BK237.out 1).trans rfl
                                    have hcz57_2 : wc.cell? ⟨gb237, 2, none⟩ = some (.int .i64 a0_2) := (blk_cell BK237.out 2).trans rfl
                                    have hcz57_3 : wc.cell? ⟨gb237, 3, none⟩ = some (.string a0_3) := (blk_cell BK237.out 3).trans rfl
                                    have hcz57_4 : wc.cell? ⟨gb237, 4, none⟩ = some (.int .i64 a0_4) := (blk_cell BK237.out 4).trans rfl
                                    have hcz57_5 : wc.cell? ⟨gb237, 5, none⟩ = some (.int .i64 a0_5) := (blk_cell BK237.out 5).trans rfl
                                    have hcz57_6 : wc.cell? ⟨gb237, 6, none⟩ = some (.int .i64 a0_6) := (blk_cell BK237.out 6).trans rfl
                                    have hcz57_7 : wc.cell? ⟨gb237, 7, none⟩ = some (.int .i64 a0_7) := (blk_cell BK237.out 7).trans rfl
                                    have hcz57_8 : wc.cell? ⟨gb237, 8, none⟩ = some (.int .i64 a0_8) := (blk_cell BK237.out 8).trans rfl
                                    have hcz57_9 : wc.cell? ⟨gb237, 9, none⟩ = some (.int .i64 a0_9) := (blk_cell BK237.out 9).trans rfl
                                    have hcz57_10 : wc.cell? ⟨gb237, 10, none⟩ = some (.string a0_10) := (blk_cell BK237.out 10).trans rfl
                                    have hfz57_0 := blk_frozen BK237.out 0
                                    have hfz57_1 := blk_frozen BK237.out 1
                                    have hfz57_2 := blk_frozen BK237.out 2
                                    have hfz57_3 := blk_frozen BK237.out 3
                                    have hfz57_4 := blk_frozen BK237.out 4
                                    have hfz57_5 := blk_frozen BK237.out 5
                                    have hfz57_6 := blk_frozen BK237.out 6
                                    have hfz57_7 := blk_frozen BK237.out 7
                                    have hfz57_8 := blk_frozen BK237.out 8
                                    have hfz57_9 := blk_frozen BK237.out 9
                                    have hfz57_10 := blk_frozen BK237.out 10
                                    go_wp2_with (first | ((with_reducible refine gate_callee (f := 34) rfl ?_); refine goesL_ (some 86) rfl rfl Try.func34 (by kernel_rfl) rfl #[.string a0_10] rfl (by (try simp only [List.map_toArray, List.map_cons, List.map_nil]); first | done | rfl | (simp only [List.length_drop, List.length_take]; rfl)) ?_; (with_reducible refine (manometerref18_Named.calls kj38 a0_10 false _ A52.out).mono ?_); rintro e w' ⟨rfl, ⟨nd, rfl⟩⟩; refine ⟨_, rfl, ?_⟩))
                                    go_ret
                                    exact ⟨by first | rfl | (simp [errW_none, errW_some] <;> rfl) | (simp [*, errW_none, errW_some] <;> rfl), by repeat (first | (with_reducible first | exact HB.out | apply below_alloc | apply pw_below_drewN | apply below_drew1 | refine below_set ?_ GE237.out) | exact HB.out)⟩
        · replace c9 := Bool.eq_false_iff.mpr c9
          subst c9
          have H1 : (some 50) = some r := by rw [if_neg (show ¬ (false = true) by decide)] at H; exact H
          clear H
          have H := H1
          clear H1
          obtain rfl := Option.some.inj H
          have hcz58_0 : wc.cell? ⟨gb237, 0, none⟩ = some (.int .i64 a0_0) := (blk_cell BK237.out 0).trans rfl
          have hcz58_1 : wc.cell? ⟨gb237, 1, none⟩ = some (.string a0_1) := (blk_cell BK237.out 1).trans rfl
          have hcz58_2 : wc.cell? ⟨gb237, 2, none⟩ = some (.int .i64 a0_2) := (blk_cell BK237.out 2).trans rfl
          have hcz58_3 : wc.cell? ⟨gb237, 3, none⟩ = some (.string a0_3) := (blk_cell BK237.out 3).trans rfl
          have hcz58_4 : wc.cell? ⟨gb237, 4, none⟩ = some (.int .i64 a0_4) := (blk_cell BK237.out 4).trans rfl
          have hcz58_5 : wc.cell? ⟨gb237, 5, none⟩ = some (.int .i64 a0_5) := (blk_cell BK237.out 5).trans rfl
          have hcz58_6 : wc.cell? ⟨gb237, 6, none⟩ = some (.int .i64 a0_6) := (blk_cell BK237.out 6).trans rfl
          have hcz58_7 : wc.cell? ⟨gb237, 7, none⟩ = some (.int .i64 a0_7) := (blk_cell BK237.out 7).trans rfl
          have hcz58_8 : wc.cell? ⟨gb237, 8, none⟩ = some (.int .i64 a0_8) := (blk_cell BK237.out 8).trans rfl
          have hcz58_9 : wc.cell? ⟨gb237, 9, none⟩ = some (.int .i64 a0_9) := (blk_cell BK237.out 9).trans rfl
          have hcz58_10 : wc.cell? ⟨gb237, 10, none⟩ = some (.string a0_10) := (blk_cell BK237.out 10).trans rfl
          have hfz58_0 := blk_frozen BK237.out 0
          have hfz58_1 := blk_frozen BK237.out 1
          have hfz58_2 := blk_frozen BK237.out 2
          have hfz58_3 := blk_frozen BK237.out 3
          have hfz58_4 := blk_frozen BK237.out 4
          have hfz58_5 := blk_frozen BK237.out 5
          have hfz58_6 := blk_frozen BK237.out 6
          have hfz58_7 := blk_frozen BK237.out 7
          have hfz58_8 := blk_frozen BK237.out 8
          have hfz58_9 := blk_frozen BK237.out 9
          have hfz58_10 := blk_frozen BK237.out 10
          go_wp2_with (first | ((with_reducible refine gate_callee (f := 34) rfl ?_); refine goesL_ (some 13) rfl rfl Try.func34 (by kernel_rfl) rfl #[.string a0_1] rfl (by (try simp only [List.map_toArray, List.map_cons, List.map_nil]); first | done | rfl | (simp only [List.length_drop, List.length_take]; rfl)) ?_; (with_reducible refine (manometerref18_Named.calls kj1 a0_1 false _ A8.out).mono ?_); rintro e w' ⟨rfl, ⟨nd, rfl⟩⟩; refine ⟨_, rfl, ?_⟩))
          go_ret
          exact ⟨by first | rfl | (simp [errW_none, errW_some] <;> rfl) | (simp [*, errW_none, errW_some] <;> rfl), by repeat (first | (with_reducible first | exact HB.out | apply below_alloc | apply pw_below_drewN | apply below_drew1 | refine below_set ?_ GE237.out) | exact HB.out)⟩

end Go.Proofs.Yticoaaddhhiglaa.Q
