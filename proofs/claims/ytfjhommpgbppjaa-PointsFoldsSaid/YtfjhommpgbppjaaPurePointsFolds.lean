/- PointsFolds: the pure statement, without program and memory. -/
import Derived.Test.YtfjhommpgbppjaaR5
import Derived.Test.YtfjhommpgbppjaaRRT
import Derived.Test.YtfjhommpgbppjaaPR7
namespace Go.Proofs.Ytfjhommpgbppjaa.Pure
open Go.RowKit Go.Proofs.Ytfjhommpgbppjaa.R Go.Proofs.YtfjhommpgbppjaaW.PrintWords Go.Proofs.YtfjhommpgbppjaaW.PrintLast Go.Proofs.YtfjhommpgbppjaaW.PrintMore

theorem PointsFolds : ∀ (l0 : List (S25)) (a1 : Int), (l0.length ≤ maxLen ∧ ∀ y ∈ l0, W25 y) → (Lit.int .i64 a1).wf = true → ∃ k, manometerlaw09_PointsFolds.f k l0 a1 = some true := by
  intro l turn _ _
  refine ⟨2003, ?_⟩
  have hlive : manometerlaw09_live.f 2003 = some true := PR.live _ (by omega)
  have hlive2 : manometerlaw09_live.f 2002 = some true := PR.live _ (by omega)
  have hj : manometerlaw09_PointsFolds.j0 2003 l turn true = some true := by
    rw [manometerlaw09_PointsFolds.j0, if_pos rfl, hlive2, Option.bind_some, if_pos rfl]
  unfold manometerlaw09_PointsFolds.f
  rw [hlive, Option.bind_some, if_pos rfl]
  by_cases h : (l.length : Int) ≤ 400
  · rw [PR.few_le h, Option.bind_some, if_pos rfl]
    by_cases h60 : (l.length : Int) > 60
    · rw [decide_eq_true h60]; exact hj
    · rw [decide_eq_false h60, manometerlaw09_PointsFolds.j0, if_neg Bool.false_ne_true]
      refine PR.folds_l0 l turn (by omega) (fun hl k hk => ?_) l.length 2002 0 (by omega) (by omega) (by omega) (fun p hp => by simp at hp)
      have hp := PR.turned_perm l turn
      exact PR.folds_l1 l (PR.turned l turn) turn (by omega) hp.length_eq hl (fun p hm => hl p (hp.mem_iff.1 hm)) (PR.G_perm hp.symm) (PR.turned_at l turn (by omega)) l.length k 0 (by omega) (by omega) (by omega)
  · rw [PR.few_gt h, Option.bind_some, if_neg Bool.false_ne_true]; exact hj

end Go.Proofs.Ytfjhommpgbppjaa.Pure
