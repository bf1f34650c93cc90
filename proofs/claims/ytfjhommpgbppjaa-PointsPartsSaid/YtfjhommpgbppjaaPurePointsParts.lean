/- PointsParts: the pure statement, without program and memory. -/
import Derived.Test.YtfjhommpgbppjaaQ0
import Derived.Test.YtfjhommpgbppjaaE2
import Derived.Test.YtfjhommpgbppjaaV18
import Derived.Test.YtfjhommpgbppjaaV20
import Derived.Test.YtfjhommpgbppjaaV23
import Derived.Test.YtfjhommpgbppjaaV4
import Derived.Test.YtfjhommpgbppjaaRT
import Derived.Test.YtfjhommpgbppjaaPP5
import Derived.Test.YtfjhommpgbppjaaPP5b
namespace Go.Proofs.Ytfjhommpgbppjaa.Pure
open Go.RowKit Go.Proofs.Ytfjhommpgbppjaa.Q Go.Proofs.YtfjhommpgbppjaaW.PrintWords Go.Proofs.YtfjhommpgbppjaaW.PrintLast Go.Proofs.YtfjhommpgbppjaaW.PrintMore

theorem PointsParts : ∀ (l0 : List (S25)) (a1_0 : Int) (a1_1 : Int) (a1_2 : Int) (a1_3 : Int) (a1_4 : Int) (a1_5 : Int), (l0.length ≤ maxLen ∧ ∀ y ∈ l0, W25 y) → (Lit.int .i64 a1_0).wf = true → (Lit.int .i64 a1_1).wf = true → (Lit.int .i64 a1_2).wf = true → (Lit.int .u64 a1_3).wf = true → (Lit.int .u64 a1_4).wf = true → (Lit.int .u64 a1_5).wf = true → ∃ k, manometerlaw09_PointsParts.f k l0 a1_0 a1_1 a1_2 a1_3 a1_4 a1_5 = some true := by
  intro a x0 x1 x2 x3 x4 x5 h0 _ _ _ _ _ _
  obtain ⟨k, hk⟩ : ∃ k, k = 30 * a.length + 50 := ⟨_, rfl⟩
  refine ⟨k, ?_⟩
  have hlive : manometerlaw09_live.f k = some true := PP.live _ (by omega)
  unfold manometerlaw09_PointsParts.f
  rw [hlive, Option.bind_some, if_pos rfl]
  by_cases h : (a.length : Int) ≤ 400
  · rw [PP.few_le h, Option.bind_some, if_pos rfl]
    have hat : manometerref09_At.f k a x2 x4 = points_At.f a x2 x4 := by
      unfold manometerref09_At.f points_At.f
      rw [PP.ref_window (by omega) _ _ k (by omega), PP.window (by omega)]
    have hsome : ∃ r, points_At.f a x2 x4 = some r := by
      unfold points_At.f
      rw [PP.window (by omega), Option.bind_some]
      generalize hL : a.filter (windowP x2 x4) = L
      have hl : L.length ≤ 400 := by have := List.length_filter_le (windowP x2 x4) a; rw [hL] at this; omega
      by_cases e : (L.length : Int) = 0
      · rw [if_pos e]; exact ⟨_, rfl⟩
      · rw [if_neg e, PP.wrap_in (by omega) (by omega), if_pos (by omega), if_pos (by omega)]; exact ⟨_, rfl⟩
    obtain ⟨r, hr⟩ := hsome
    have ml : ∀ P : S25 → Bool, (a.filter P).length ≤ 9223372036854775807 := fun P => by have := List.length_filter_le P a; omega
    have mk : ∀ P : S25 → Bool, (a.filter P).length < k := fun P => by have := List.length_filter_le P a; omega
    rw [hat, hr, Option.bind_some, Option.bind_some]
    rw [PP.range (by omega), Option.bind_some, PP.ref_range (by omega) _ _ k (by omega), Option.bind_some, PP.same _ (ml _) k (mk _), Option.bind_some, if_pos rfl]
    rw [PP.upto (by omega), Option.bind_some, PP.ref_upto (by omega) _ k (by omega), Option.bind_some, PP.same _ (ml _) k (mk _), Option.bind_some, if_pos rfl]
    rw [PP.window (by omega), Option.bind_some, PP.ref_window (by omega) _ _ k (by omega), Option.bind_some, PP.same _ (ml _) k (mk _), Option.bind_some, if_pos rfl]
    rw [if_pos rfl, if_pos rfl, if_pos rfl, BEq.rfl]
  · rw [PP.few_gt h, Option.bind_some, if_neg Bool.false_ne_true, Option.bind_some, if_pos rfl]

end Go.Proofs.Ytfjhommpgbppjaa.Pure
