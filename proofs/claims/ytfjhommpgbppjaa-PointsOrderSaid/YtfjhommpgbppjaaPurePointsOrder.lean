/- PointsOrder: the pure statement, without program and memory. -/
import Derived.Test.YtfjhommpgbppjaaQ0
import Derived.Test.YtfjhommpgbppjaaV27
import Derived.Test.YtfjhommpgbppjaaV4
import Derived.Test.YtfjhommpgbppjaaRT
import Derived.Test.YtfjhommpgbppjaaPP4
namespace Go.Proofs.Ytfjhommpgbppjaa.Pure
open Go.RowKit Go.Proofs.Ytfjhommpgbppjaa.Q Go.Proofs.YtfjhommpgbppjaaW.PrintWords Go.Proofs.YtfjhommpgbppjaaW.PrintLast Go.Proofs.YtfjhommpgbppjaaW.PrintMore

theorem PointsOrder : ∀ (l0 : List (S25)) (l1 : List (S25)) (l2 : List (S25)), (l0.length ≤ maxLen ∧ ∀ y ∈ l0, W25 y) → (l1.length ≤ maxLen ∧ ∀ y ∈ l1, W25 y) → (l2.length ≤ maxLen ∧ ∀ y ∈ l2, W25 y) → ∃ k, manometerlaw09_PointsOrder.f k l0 l1 l2 = some true := by
  intro a b c h0 h1 h2
  obtain ⟨k, hk⟩ : ∃ k, k = 30 * (a.length + b.length + c.length) + 50 := ⟨_, rfl⟩
  refine ⟨k + 2, ?_⟩
  unfold manometerlaw09_PointsOrder.f
  have hlive : manometerlaw09_live.f (k + 2) = some true := PP.live _ (by omega)
  have hlive2 : manometerlaw09_live.f (k + 1) = some true := PP.live _ (by omega)
  rw [hlive, Option.bind_some, if_pos rfl]
  have hj : manometerlaw09_PointsOrder.j0 (k + 2) a b c true = some true := by rw [manometerlaw09_PointsOrder.j0, if_pos rfl, hlive2, Option.bind_some, if_pos rfl]
  by_cases h : (a.length : Int) ≤ 400
  · rw [PP.few_le h, Option.bind_some, if_pos rfl]
    by_cases h' : (b.length : Int) ≤ 400
    · rw [PP.few_le h', Option.bind_some, if_pos rfl]
      by_cases h'' : (c.length : Int) ≤ 400
      · rw [PP.few_le h'', Option.bind_some, if_pos rfl]
        obtain ⟨x, hx, hxi⟩ := PP.right a (by omega) (k + 2) (by omega)
        obtain ⟨y, hy, hyi⟩ := PP.right b (by omega) (k + 2) (by omega)
        obtain ⟨z, hz, hzi⟩ := PP.right c (by omega) (k + 2) (by omega)
        rw [hx, Option.bind_some]
        cases x with
        | false => rw [if_neg Bool.false_ne_true]; exact hj
        | true =>
          rw [if_pos rfl, hy, Option.bind_some]
          cases y with
          | false => rw [if_neg Bool.false_ne_true]; exact hj
          | true =>
            rw [if_pos rfl, hz, Option.bind_some]
            cases z with
            | false => rw [Bool.not_false]; exact hj
            | true =>
              have ra := hxi.1 rfl
              have rb := hyi.1 rfl
              have rc := hzi.1 rfl
              have la := PP.mg_len _ a b (Nat.le_refl _)
              have lb := PP.mg_len _ b c (Nat.le_refl _)
              have lc := PP.mg_len _ a a (Nat.le_refl _)
              have ld := PP.mg_len _ (PP.mg a b) c (Nat.le_refl _)
              have rab := PP.rt_mg ra rb (by omega)
              have rbc := PP.rt_mg rb rc (by omega)
              have sa := ((PP.rt_iff a).1 ra).2.1
              have sb := ((PP.rt_iff b).1 rb).2.1
              have sc := ((PP.rt_iff c).1 rc).2.1
              rw [Bool.not_true, manometerlaw09_PointsOrder.j0, if_neg Bool.false_ne_true]
              rw [(PP.merge ra rb (by omega) (k + 1) (by omega)), Option.bind_some, (PP.merge rb ra (by omega) (k + 1) (by omega)), Option.bind_some, (PP.merge rb rc (by omega) (k + 1) (by omega)), Option.bind_some]
              rw [(PP.merge rab rc (by omega) (k + 1) (by omega)), Option.bind_some, (PP.merge ra rbc (by omega) (k + 1) (by omega)), Option.bind_some, (PP.merge ra ra (by omega) (k + 1) (by omega)), Option.bind_some]
              rw [if_pos rfl, if_pos rfl, if_pos rfl, if_pos rfl, if_pos rfl]
              rw [show ((0 : Int) != 0) = false from rfl, manometerlaw09_PointsOrder.j1, if_neg Bool.false_ne_true]
              rw [PP.mg_comm sb sa, PP.same (PP.mg a b) (by omega) k (by omega), Option.bind_some, if_pos rfl, PP.mg_assoc sa sb sc, PP.same (PP.mg a (PP.mg b c)) (by rw [← PP.mg_assoc sa sb sc]; omega) k (by rw [← PP.mg_assoc sa sb sc]; omega), Option.bind_some, if_pos rfl, PP.mg_self sa, PP.same a (by omega) k (by omega)]
              rfl
      · rw [PP.few_gt h'', Option.bind_some, if_neg Bool.false_ne_true]; exact hj
    · rw [PP.few_gt h', Option.bind_some, if_neg Bool.false_ne_true]; exact hj
  · rw [PP.few_gt h, Option.bind_some, if_neg Bool.false_ne_true]; exact hj

end Go.Proofs.Ytfjhommpgbppjaa.Pure
