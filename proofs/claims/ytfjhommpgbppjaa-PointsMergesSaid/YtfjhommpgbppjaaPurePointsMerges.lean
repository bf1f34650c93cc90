/- PointsMerges: the pure statement, without program and memory. -/
import Derived.Test.YtfjhommpgbppjaaQ0
import Derived.Test.YtfjhommpgbppjaaV26
import Derived.Test.YtfjhommpgbppjaaV4
import Derived.Test.YtfjhommpgbppjaaRT
import Derived.Test.YtfjhommpgbppjaaPP4
import Derived.Test.YtfjhommpgbppjaaPP4b
namespace Go.Proofs.Ytfjhommpgbppjaa.Pure
open Go.RowKit Go.Proofs.Ytfjhommpgbppjaa.Q Go.Proofs.YtfjhommpgbppjaaW.PrintWords Go.Proofs.YtfjhommpgbppjaaW.PrintLast Go.Proofs.YtfjhommpgbppjaaW.PrintMore

theorem PointsMerges : ∀ (l0 : List (S25)) (l1 : List (S25)), (l0.length ≤ maxLen ∧ ∀ y ∈ l0, W25 y) → (l1.length ≤ maxLen ∧ ∀ y ∈ l1, W25 y) → ∃ k, manometerlaw09_PointsMerges.f k l0 l1 = some true := by
  intro l0 l1 h0 h1
  obtain ⟨k, hk⟩ : ∃ k, k = 8 * (l0.length + l1.length) + 30 := ⟨_, rfl⟩
  refine ⟨k + 1, ?_⟩
  unfold manometerlaw09_PointsMerges.f
  have hlive : manometerlaw09_live.f (k + 1) = some true := PP.live _ (by omega)
  have hlive2 : manometerlaw09_live.f k = some true := PP.live _ (by omega)
  rw [hlive, Option.bind_some, if_pos rfl]
  have hj : manometerlaw09_PointsMerges.j0 (k + 1) l0 l1 true = some true := by rw [manometerlaw09_PointsMerges.j0, if_pos rfl, hlive2, Option.bind_some, if_pos rfl]
  by_cases h : (l0.length : Int) ≤ 400
  · rw [PP.few_le h, Option.bind_some, if_pos rfl]
    by_cases h' : (l1.length : Int) ≤ 400
    · rw [PP.few_le h', Option.bind_some, Bool.not_true, manometerlaw09_PointsMerges.j0, if_neg Bool.false_ne_true]
      by_cases hr : PP.Rt l0 ∧ PP.Rt l1
      · have e1 := PP.merge hr.1 hr.2 (by omega) k (by omega)
        have e2 := PP.ref_merge hr.1 hr.2 (by omega) k (by omega)
        rw [e1, Option.bind_some, e2, Option.bind_some, PP.same (PP.mg l0 l1) (by have := PP.mg_len _ l0 l1 (Nat.le_refl _); omega) k (by have := PP.mg_len _ l0 l1 (Nat.le_refl _); omega), Option.bind_some, if_pos rfl]
        rfl
      · have e1 := PP.merge_bad hr (by omega) k (by omega)
        have e2 := PP.ref_merge_bad hr (by omega) k (by omega)
        rw [e1, Option.bind_some, e2, Option.bind_some, PP.same [] (by simp) k (by simp; omega), Option.bind_some, if_pos rfl]
        rfl
    · rw [PP.few_gt h', Option.bind_some, Bool.not_false]; exact hj
  · rw [PP.few_gt h, Option.bind_some, if_neg Bool.false_ne_true]; exact hj

end Go.Proofs.Ytfjhommpgbppjaa.Pure
