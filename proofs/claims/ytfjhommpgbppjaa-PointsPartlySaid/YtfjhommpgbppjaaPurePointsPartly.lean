/- PointsPartly: the pure statement, without program and memory. -/
import Derived.Test.YtfjhommpgbppjaaQ0
import Derived.Test.YtfjhommpgbppjaaE2
import Derived.Test.YtfjhommpgbppjaaV24
import Derived.Test.YtfjhommpgbppjaaV28
import Derived.Test.YtfjhommpgbppjaaV4
import Derived.Test.YtfjhommpgbppjaaRT
import Derived.Test.YtfjhommpgbppjaaPP4
import Derived.Test.YtfjhommpgbppjaaPP5
namespace Go.Proofs.Ytfjhommpgbppjaa.Pure
open Go.RowKit Go.Proofs.Ytfjhommpgbppjaa.Q Go.Proofs.YtfjhommpgbppjaaW.PrintWords Go.Proofs.YtfjhommpgbppjaaW.PrintLast Go.Proofs.YtfjhommpgbppjaaW.PrintMore

theorem PointsPartly : ∀ (l0 : List (S25)) (l1 : List (S25)) (a2_0 : Int) (a2_1 : Int) (a2_2 : Int) (a2_3 : Int) (a2_4 : Int) (a2_5 : Int), (l0.length ≤ maxLen ∧ ∀ y ∈ l0, W25 y) → (l1.length ≤ maxLen ∧ ∀ y ∈ l1, W25 y) → (Lit.int .i64 a2_0).wf = true → (Lit.int .i64 a2_1).wf = true → (Lit.int .i64 a2_2).wf = true → (Lit.int .u64 a2_3).wf = true → (Lit.int .u64 a2_4).wf = true → (Lit.int .u64 a2_5).wf = true → ∃ k, manometerlaw09_PointsPartly.f k l0 l1 a2_0 a2_1 a2_2 a2_3 a2_4 a2_5 = some true := by
  intro a b x0 x1 x2 x3 x4 x5 h0 h1 _ _ _ _ _ _
  obtain ⟨k, hk⟩ : ∃ k, k = 30 * (a.length + b.length) + 50 := ⟨_, rfl⟩
  refine ⟨k + 2, ?_⟩
  unfold manometerlaw09_PointsPartly.f
  have hlive : manometerlaw09_live.f (k + 2) = some true := PP.live _ (by omega)
  have hlive2 : manometerlaw09_live.f (k + 1) = some true := PP.live _ (by omega)
  rw [hlive, Option.bind_some, if_pos rfl]
  have hj : manometerlaw09_PointsPartly.j0 (k + 2) a b true x0 x1 x2 x3 x4 x5 = some true := by rw [manometerlaw09_PointsPartly.j0, if_pos rfl, hlive2, Option.bind_some, if_pos rfl]
  by_cases h : (a.length : Int) ≤ 400
  · rw [PP.few_le h, Option.bind_some, if_pos rfl]
    by_cases h' : (b.length : Int) ≤ 400
    · rw [PP.few_le h', Option.bind_some, if_pos rfl]
      obtain ⟨x, hx, hxi⟩ := PP.right a (by omega) (k + 2) (by omega)
      obtain ⟨y, hy, hyi⟩ := PP.right b (by omega) (k + 2) (by omega)
      rw [hx, Option.bind_some]
      cases x with
      | false => rw [if_neg Bool.false_ne_true]; exact hj
      | true =>
        rw [if_pos rfl, hy, Option.bind_some]
        cases y with
        | false => rw [Bool.not_false]; exact hj
        | true =>
          have ra := hxi.1 rfl
          have rb := hyi.1 rfl
          have la := PP.mg_len _ a b (Nat.le_refl _)
          have sa := ((PP.rt_iff a).1 ra).2.1
          have sb := ((PP.rt_iff b).1 rb).2.1
          have mf : ∀ P : S25 → Bool, points_Merge.f (k + 1) (a.filter P) (b.filter P) = some (PP.mg (a.filter P) (b.filter P), 0) := fun P => (PP.merge (PP.rt_filter ra) (PP.rt_filter rb) (by have := List.length_filter_le P a; have := List.length_filter_le P b; omega) (k + 1) (by have := List.length_filter_le P a; have := List.length_filter_le P b; omega))
          have ml : ∀ P : S25 → Bool, ((PP.mg a b).filter P).length ≤ 800 := fun P => by have := List.length_filter_le P (PP.mg a b); omega
          have mk : ∀ P : S25 → Bool, ((PP.mg a b).filter P).length < k := fun P => by have := List.length_filter_le P (PP.mg a b); omega
          rw [Bool.not_true, manometerlaw09_PointsPartly.j0, if_neg Bool.false_ne_true]
          rw [(PP.merge ra rb (by omega) (k + 1) (by omega)), Option.bind_some]
          rw [PP.upto (by omega), Option.bind_some, PP.upto (by omega), Option.bind_some, mf, Option.bind_some]
          rw [PP.range (by omega), Option.bind_some, PP.range (by omega), Option.bind_some, mf, Option.bind_some]
          rw [PP.window (by omega), Option.bind_some, PP.window (by omega), Option.bind_some, mf, Option.bind_some]
          rw [if_pos rfl, if_pos rfl, if_pos rfl]
          rw [show ((0 : Int) != 0) = false from rfl, manometerlaw09_PointsPartly.j1, if_neg Bool.false_ne_true]
          rw [← PP.filter_mg (PP.upto_ok _) sa sb, ← PP.filter_mg (PP.time_ok _ (PP.range_t _ _)) sa sb, ← PP.filter_mg (PP.time_ok _ (PP.window_t _ _)) sa sb]
          rw [PP.upto (l := PP.mg a b) (by omega), Option.bind_some, PP.same ((PP.mg a b).filter (uptoP x5)) (by have := ml (uptoP x5); omega) k (mk _), Option.bind_some, if_pos rfl]
          rw [PP.range (l := PP.mg a b) (by omega), Option.bind_some, PP.same ((PP.mg a b).filter (rangeP x0 x1)) (by have := ml (rangeP x0 x1); omega) k (mk _), Option.bind_some, if_pos rfl]
          rw [PP.window (l := PP.mg a b) (by omega), Option.bind_some, PP.same ((PP.mg a b).filter (windowP x2 x3)) (by have := ml (windowP x2 x3); omega) k (mk _)]
          rfl
    · rw [PP.few_gt h', Option.bind_some, if_neg Bool.false_ne_true]; exact hj
  · rw [PP.few_gt h, Option.bind_some, if_neg Bool.false_ne_true]; exact hj

end Go.Proofs.Ytfjhommpgbppjaa.Pure
