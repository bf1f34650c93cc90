/- PointsRights: the pure statement, without program and memory. -/
import Derived.Test.YtfjhommpgbppjaaQ4
import Derived.Test.YtfjhommpgbppjaaRT
import Derived.Test.YtfjhommpgbppjaaPP
namespace Go.Proofs.Ytfjhommpgbppjaa.Pure
open Go.RowKit Go.Proofs.Ytfjhommpgbppjaa.Q Go.Proofs.YtfjhommpgbppjaaW.PrintWords Go.Proofs.YtfjhommpgbppjaaW.PrintLast Go.Proofs.YtfjhommpgbppjaaW.PrintMore

theorem PointsRights : ∀ (l0 : List (S25)) (a1_0 : Int) (a1_1 : Int) (a1_2 : Int) (a2_0 : Int) (a2_1 : Int) (a2_2 : Int), (l0.length ≤ maxLen ∧ ∀ y ∈ l0, W25 y) → (Lit.int .i64 a1_0).wf = true → (Lit.int .u64 a1_1).wf = true → (Lit.int .u64 a1_2).wf = true → (Lit.int .i64 a2_0).wf = true → (Lit.int .u64 a2_1).wf = true → (Lit.int .u64 a2_2).wf = true → ∃ k, manometerlaw09_PointsRights.f k l0 a1_0 a1_1 a1_2 a2_0 a2_1 a2_2 = some true := by
  intro l0 p0 p1 p2 q0 q1 q2 hl _ _ _ _ _ _
  refine ⟨2 * l0.length + 21, ?_⟩
  unfold manometerlaw09_PointsRights.f
  rw [PP.live _ (by omega)]; simp only [Option.bind_some, if_true]
  by_cases h : (l0.length : Int) ≤ 400
  · obtain ⟨b, hb, _⟩ := PP.right l0 (by omega) (2 * l0.length + 21) (by omega)
    rw [PP.few_le h, PP.ref_right _ (by omega), hb]
    simp only [Option.bind_some, if_true]
    have h1 := PP.ahead ⟨p0, p1, p2⟩ ⟨q0, q1, q2⟩
    have h2 := PP.ref_ahead ⟨p0, p1, p2⟩ ⟨q0, q1, q2⟩
    simp only at h1 h2
    rw [h1, h2]; simp
  · rw [PP.few_gt h]; rfl

end Go.Proofs.Ytfjhommpgbppjaa.Pure
