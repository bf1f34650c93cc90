/- PointsFinds: the pure statement, without program and memory. -/
import Derived.Test.YtfjhommpgbppjaaQ4
import Derived.Test.YtfjhommpgbppjaaRT
import Derived.Test.YtfjhommpgbppjaaPP2
import Derived.Test.YtfjhommpgbppjaaPP
namespace Go.Proofs.Ytfjhommpgbppjaa.Pure
open Go.RowKit Go.Proofs.Ytfjhommpgbppjaa.Q Go.Proofs.YtfjhommpgbppjaaW.PrintWords Go.Proofs.YtfjhommpgbppjaaW.PrintLast Go.Proofs.YtfjhommpgbppjaaW.PrintMore

theorem PointsFinds : ∀ (l0 : List (S25)) (a1 : Int), (l0.length ≤ maxLen ∧ ∀ y ∈ l0, W25 y) → (Lit.int .i64 a1).wf = true → ∃ k, manometerlaw09_PointsFinds.f k l0 a1 = some true := by
  intro l0 t hl _
  refine ⟨2 * l0.length + 21, ?_⟩
  unfold manometerlaw09_PointsFinds.f
  rw [PP.live _ (by omega)]; simp only [Option.bind_some, if_true]
  by_cases h : (l0.length : Int) ≤ 400
  · rw [PP.few_le h]; simp only [Option.bind_some, if_true]
    obtain ⟨b, hb, hbi⟩ := PP.right l0 (by omega) (2 * l0.length + 21) (by omega)
    rw [PP.ref_right _ (by omega), hb]
    cases b with
    | true =>
      obtain ⟨n, c, h1, h2, _, _⟩ := PP.finds_same l0 t (by omega) (hbi.1 rfl) (2 * l0.length + 21) (by omega)
      rw [h1, h2]; simp
    | false =>
      obtain ⟨n, c, h1, _⟩ := PP.find_any l0 t (by omega)
      obtain ⟨m, c2, h2, _⟩ := PP.ref_find l0 t (by omega) (2 * l0.length + 21) (by omega)
      rw [h1, h2]; simp
  · rw [PP.few_gt h]; simp only [Option.bind_some, if_false, Bool.false_eq_true]

end Go.Proofs.Ytfjhommpgbppjaa.Pure
