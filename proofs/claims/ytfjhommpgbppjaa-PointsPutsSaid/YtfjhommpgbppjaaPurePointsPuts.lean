/- PointsPuts: the pure statement, without program and memory. -/
import Derived.Test.YtfjhommpgbppjaaRT
import Derived.Test.YtfjhommpgbppjaaE9
import Derived.Test.YtfjhommpgbppjaaPP8
namespace Go.Proofs.Ytfjhommpgbppjaa.Pure
open Go.RowKit Go.Proofs.Ytfjhommpgbppjaa.Q Go.Proofs.YtfjhommpgbppjaaW.PrintWords Go.Proofs.YtfjhommpgbppjaaW.PrintLast Go.Proofs.YtfjhommpgbppjaaW.PrintMore

theorem PointsPuts : ∀ (l0 : List (S25)) (a1_0 : Int) (a1_1 : Int) (a1_2 : Int), (l0.length ≤ maxLen ∧ ∀ y ∈ l0, W25 y) → (Lit.int .i64 a1_0).wf = true → (Lit.int .u64 a1_1).wf = true → (Lit.int .u64 a1_2).wf = true → ∃ k, manometerlaw09_PointsPuts.f k l0 a1_0 a1_1 a1_2 = some true := by
  intro l p0 p1 p2 h0 _ _ _
  obtain ⟨p, rfl, rfl, rfl⟩ : ∃ p : S25, p.f0 = p0 ∧ p.f1 = p1 ∧ p.f2 = p2 := ⟨⟨p0, p1, p2⟩, rfl, rfl, rfl⟩
  obtain ⟨k, hk⟩ : ∃ k, k = 40 * l.length + 100 := ⟨_, rfl⟩
  refine ⟨k, ?_⟩
  have hlive : manometerlaw09_live.f k = some true := PP.live _ (by omega)
  unfold manometerlaw09_PointsPuts.f
  rw [if_pos hlive]
  by_cases h : (l.length : Int) ≤ 400
  · rw [PP.few_le h, Option.bind_some, if_pos ⟨rfl, by omega⟩]
    have hsl : manometerref09_Same.f k l l = some true := PP.same l (by omega) k (by omega)
    by_cases hb : p.f2 ≠ 0 ∧ PP.Rt l
    · obtain ⟨hp, hr⟩ := hb
      obtain ⟨n, e1, d1⟩ := PP.put (p := p) (by omega) hp hr k (by omega)
      obtain ⟨m, e2, d2⟩ := PP.ref_put (p := p) (by omega) hp hr k (by omega)
      have hml := PP.mg_len _ l [p] (Nat.le_refl _)
      simp only [List.length_cons, List.length_nil] at hml
      have hnm : n = m := by
        rcases d1 with ⟨rfl, a1⟩ | ⟨q, a1, a2⟩ <;> rcases d2 with ⟨rfl, b1⟩ | ⟨r, b1, b2⟩
        · rfl
        · rw [a1] at b1; cases b1
        · rw [a1] at b1; cases b1
        · rw [a1] at b1; cases b1; rw [a2, b2]
      subst hnm
      clear d1 d2
      rw [e1, Option.bind_some, e2, Option.bind_some, if_pos ⟨rfl, PP.same (PP.mg l [p]) (by omega) k (by omega), hsl⟩]
    · rw [PP.put_bad (p := p) (by omega) hb k (by omega), Option.bind_some, PP.ref_put_bad (p := p) (by omega) hb k (by omega), Option.bind_some, if_pos ⟨rfl, hsl, hsl⟩]
  · rw [PP.few_gt h, Option.bind_some, if_neg (fun h => by cases h.1), if_pos rfl]

end Go.Proofs.Ytfjhommpgbppjaa.Pure
