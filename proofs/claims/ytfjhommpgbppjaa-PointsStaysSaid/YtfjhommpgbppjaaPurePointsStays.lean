/- PointsStays: the pure statement, without program and memory. -/
import Derived.Test.YtfjhommpgbppjaaQ0
import Derived.Test.YtfjhommpgbppjaaV17
import Derived.Test.YtfjhommpgbppjaaRT
import Derived.Test.YtfjhommpgbppjaaV15
import Derived.Test.YtfjhommpgbppjaaV4
import Derived.Test.YtfjhommpgbppjaaPP7
namespace Go.Proofs.Ytfjhommpgbppjaa.Pure
open Go.RowKit Go.Proofs.Ytfjhommpgbppjaa.Q Go.Proofs.YtfjhommpgbppjaaW.PrintWords Go.Proofs.YtfjhommpgbppjaaW.PrintLast Go.Proofs.YtfjhommpgbppjaaW.PrintMore

theorem ne_succ (n : Nat) : (n : Int) ≠ ((n + 1 : Nat) : Int) := by omega
theorem PointsStays : ∀ (l0 : List (S25)) (a1_0 : Int) (a1_1 : Int) (a1_2 : Int), (l0.length ≤ maxLen ∧ ∀ y ∈ l0, W25 y) → (Lit.int .i64 a1_0).wf = true → (Lit.int .u64 a1_1).wf = true → (Lit.int .u64 a1_2).wf = true → ∃ k, manometerlaw09_PointsStays.f k l0 a1_0 a1_1 a1_2 = some true := by
  intro l p0 p1 p2 h0 _ _ _
  obtain ⟨p, rfl, rfl, rfl⟩ : ∃ p : S25, p.f0 = p0 ∧ p.f1 = p1 ∧ p.f2 = p2 := ⟨⟨p0, p1, p2⟩, rfl, rfl, rfl⟩
  obtain ⟨k, hk⟩ : ∃ k, k = 40 * l.length + 100 := ⟨_, rfl⟩
  refine ⟨k, ?_⟩
  have hlive : manometerlaw09_live.f k = some true := PP.live _ (by omega)
  unfold manometerlaw09_PointsStays.f
  rw [hlive, Option.bind_some, if_pos rfl]
  by_cases h : (l.length : Int) ≤ 400
  · rw [PP.few_le h, Option.bind_some, if_pos rfl]
    by_cases hb : p.f2 ≠ 0 ∧ PP.Rt l
    · obtain ⟨hp, hr⟩ := hb
      obtain ⟨n, e1, e2⟩ := PP.put (p := p) (by omega) hp hr k (by omega)
      have hs := ((PP.rt_iff l).1 hr).2.1
      have hcp := PP.cnt_put (p := p) hs
      have hlk := fun t => PP.look_put (p := p) hs t
      have hln := PP.put_len (p := p) hs
      have hrm := PP.rt_put (p := p) (by omega) hp hr
      have hsm := ((PP.rt_iff _).1 hrm).2.1
      have hml : (PP.mg l [p]).length ≤ 401 := by have := PP.mg_len _ l [p] (Nat.le_refl _); simp only [List.length_cons, List.length_nil] at this; omega
      have hml2 : (PP.mg l [p]).length ≤ l.length + 1 := by have := PP.mg_len _ l [p] (Nat.le_refl _); simp only [List.length_cons, List.length_nil] at this; omega
      rw [e1, Option.bind_some, if_pos rfl]
      have hlp := hlk p.f0
      rw [if_pos rfl] at hlp
      have hin : ∀ q ∈ l, q.f0 ≠ p.f0 → q ∈ PP.mg l [p] := fun q hq hne => by
        have := hlk q.f0
        rw [if_neg (fun e => hne e.symm), PP.look_mem hs hq, PP.cmb_none] at this
        exact (PP.look_some this).1
      have hok : ∀ q ∈ PP.mg l [p], q.f0 = p.f0 → PP.okq n p q := fun q hq he => by
        have h1 := PP.look_mem hsm hq
        rw [he, hlp] at h1
        rcases e2 with ⟨rfl, h2⟩ | ⟨q0, h2, rfl⟩
        · rw [h2] at h1
          obtain rfl : p = q := Option.some.inj h1
          exact ⟨PP.ah_irr _, .inl rfl, fun h => by omega, fun h => by omega⟩
        · rw [h2] at h1
          have hq0 := (PP.look_some h2).2
          obtain rfl : PP.least q0 p = q := Option.some.inj h1
          rw [PP.least_comm hq0]
          unfold PP.least PP.okq
          by_cases ha : PP.ah p q0 = true
          · rw [if_pos ha]
            refine ⟨PP.ah_irr _, .inl rfl, fun _ => rfl, fun h4 => ?_⟩
            by_cases e : q0.f1 = p.f1
            · rw [if_pos e] at h4; exact absurd h4 (by decide)
            · rw [if_neg e, if_pos ha] at h4; exact absurd h4 (by decide)
          · rw [if_neg ha]
            rw [Bool.not_eq_true] at ha
            have ha' : ¬ PP.ah p q0 = true := by rw [ha]; exact Bool.false_ne_true
            by_cases e : q0.f1 = p.f1
            · rw [if_pos e]
              exact ⟨ha, .inr ⟨by decide, by decide⟩, fun _ => e, fun h => absurd h (by decide)⟩
            · rw [if_neg e, if_neg ha']
              exact ⟨ha, .inr ⟨by decide, by decide⟩, fun h => absurd h (by decide), fun _ => e⟩
      have hn1 : (n == 1) = (((PP.mg l [p]).length : Int) == ((l.length + 1 : Nat) : Int)) := by
        rcases e2 with ⟨rfl, h2⟩ | ⟨q0, h2, rfl⟩
        · rw [hln, h2, if_pos rfl, beq_self_eq_true, beq_self_eq_true]
        · have h3 : (PP.mg l [p]).length = l.length := by rw [hln, h2, if_neg (fun h => by cases h)]; rfl
          rw [h3]
          have a1 : ((if q0.f1 = p.f1 then 2 else if PP.ah p q0 = true then 3 else 4 : Int) == 1) = false := by
            by_cases e : q0.f1 = p.f1
            · rw [if_pos e]; rfl
            · rw [if_neg e]; split <;> rfl
          rw [a1]
          exact (beq_eq_false_iff_ne.2 (ne_succ l.length)).symm
      refine PP.stays_l0 l (PP.mg l [p]) n p (by omega) (2 * (PP.mg l [p]).length + 2 * l.length + 10) (some true) (PP.mg l [p]).length k 0 0 0 (by omega) rfl (by omega) (by omega) (by omega) hok fun k' hk' => ?_
      rw [List.drop_zero, hcp.1, hcp.2]
      exact PP.stays_l1 l (PP.mg l [p]) n p (by omega) (by omega) hrm hin hn1 l.length k' 0 _ (by omega) (by omega) (by omega) (by rw [List.drop_zero, Nat.zero_add])
    · rw [PP.put_bad (p := p) (by omega) hb k (by omega), Option.bind_some, if_neg (show ¬ (1 : Int) = 0 by decide), if_pos rfl, PP.same l (by omega) k (by omega), Option.bind_some, if_pos rfl]
      obtain ⟨x, hx, hxi⟩ := PP.right l (by omega) k (by omega)
      rw [hx, Option.bind_some]
      cases x with
      | false => rw [if_neg Bool.false_ne_true]
      | true =>
        rw [if_pos rfl]
        have : p.f2 = 0 := Classical.byContradiction fun h => hb ⟨h, hxi.1 rfl⟩
        rw [this]; rfl
  · rw [PP.few_gt h, Option.bind_some, if_neg Bool.false_ne_true, Option.bind_some, if_pos rfl]

end Go.Proofs.Ytfjhommpgbppjaa.Pure
