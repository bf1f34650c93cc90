/- Plain laws of points, on: the document's Put. -/
import Derived.Test.YtfjhommpgbppjaaPP6
import Derived.Test.YtfjhommpgbppjaaPP2b
import Derived.Test.YtfjhommpgbppjaaPPb
import Derived.Test.YtfjhommpgbppjaaV14
namespace Go.Proofs.Ytfjhommpgbppjaa.PP
open Go.RowKit Go.Proofs.Ytfjhommpgbppjaa.Q Go.Proofs.YtfjhommpgbppjaaW.PrintWords Go.Proofs.YtfjhommpgbppjaaW.PrintLast Go.Proofs.YtfjhommpgbppjaaW.PrintMore
set_option linter.unusedVariables false

theorem ref_copied {l : List S25} (h : l.length ≤ 100000) : manometerref09_copied.f l = some l := by
  unfold manometerref09_copied.f
  rw [Option.bind_some, if_pos (by simp only [List.length_nil]; omega), List.nil_append]
theorem ref_put_bad {l : List S25} {p : S25} (hl : l.length ≤ 60000) (h : ¬ (p.f2 ≠ 0 ∧ Rt l)) (k : Nat) (hk : 2 * l.length + 10 ≤ k) : manometerref09_Put.f k l p.f0 p.f1 p.f2 = some (l, 0, 1) := by
  obtain ⟨x, hx, hxi⟩ := right l (by omega) k (by omega)
  obtain ⟨k, rfl⟩ : ∃ m, k = m + 1 := ⟨k - 1, by omega⟩
  have hj : manometerref09_Put.j0 (k + 1) l true p.f0 p.f1 p.f2 = some (l, 0, 1) := by rw [manometerref09_Put.j0, if_pos rfl, ref_copied (by omega), Option.bind_some]
  unfold manometerref09_Put.f
  rw [ref_right l (by omega), hx, Option.bind_some]
  cases x with
  | false => rw [if_neg Bool.false_ne_true]; exact hj
  | true =>
    have hp : p.f2 = 0 := Classical.byContradiction fun hp => h ⟨hp, hxi.1 rfl⟩
    rw [if_pos rfl, show (p.f2 == 0) = true from beq_iff_eq.2 hp]; exact hj
theorem ref_put {l : List S25} {p : S25} (hl : l.length ≤ 60000) (hp : p.f2 ≠ 0) (hr : Rt l) (k : Nat) (hk : 2 * l.length + 10 ≤ k) :
    ∃ n, manometerref09_Put.f k l p.f0 p.f1 p.f2 = some (mg l [p], n, 0) ∧ (n = 1 ∧ look l p.f0 = none ∨ ∃ q, look l p.f0 = some q ∧ n = if q.f1 = p.f1 then 2 else if ah p q = true then 3 else 4) := by
  obtain ⟨x, hx, hxi⟩ := right l (by omega) k (by omega)
  obtain rfl := hxi.2 hr
  have hs := ((rt_iff l).1 hr).2.1
  obtain ⟨k, rfl⟩ : ∃ m, k = m + 1 := ⟨k - 1, by omega⟩
  obtain ⟨n, b, _, h1, h2, h3⟩ := finds_same l p.f0 (by omega) hr k (by omega)
  have hlk := look_first hs h2
  have hnl := h2.1
  unfold manometerref09_Put.f
  rw [ref_right l (by omega), hx, Option.bind_some, if_pos rfl, show (p.f2 == 0) = false from beq_eq_false_iff_ne.2 hp, manometerref09_Put.j0, if_neg Bool.false_ne_true, h1, Option.bind_some]
  cases b with
  | true =>
    have h4 := h3.1 rfl
    rw [if_pos h4] at hlk
    have hm := mg_found p l n hs h2 h4.1 h4.2
    have hset : l.set n (l.getD n z25) = l := by rw [getD_lt h4.1]; exact List.set_getElem_self h4.1
    rw [if_pos rfl, ref_copied (by omega), Option.bind_some, if_pos (by omega), if_pos (by omega)]
    rw [show rd_T25 l ((n : Int), true).1 = l.getD n z25 from rfl]
    generalize hq : l.getD n z25 = q at *
    have hle : manometerref09_least.f p.f0 p.f1 p.f2 q.f0 q.f1 q.f2 = some ((least p q).f0, (least p q).f1, (least p q).f2) := by
      unfold manometerref09_least.f least
      rw [ref_ahead, Option.bind_some]
      by_cases ha : ah p q = true
      · rw [if_pos ha, if_pos ha]
      · rw [if_neg ha, if_neg ha]
    have hmg : l.set n (least p q) = mg l [p] := by
      rw [hm]
      unfold least
      by_cases ha : ah p q = true
      · rw [if_pos ha, if_pos ha]
      · rw [if_neg ha, if_neg ha]; exact hset
    rw [hle, Option.bind_some, if_pos (by omega), Option.bind_some]
    rw [show l.set ((n : Int), true).1.toNat (⟨(least p q).f0, (least p q).f1, (least p q).f2⟩ : S25) = mg l [p] from hmg]
    by_cases e : q.f1 = p.f1
    · rw [if_pos e.symm]
      exact ⟨2, rfl, .inr ⟨q, hlk, by rw [if_pos e]⟩⟩
    · rw [if_neg (fun h => e h.symm), ref_ahead, Option.bind_some]
      by_cases ha : ah p q = true
      · rw [if_pos ha]
        exact ⟨3, rfl, .inr ⟨q, hlk, by rw [if_neg e, if_pos ha]⟩⟩
      · rw [if_neg ha]
        exact ⟨4, rfl, .inr ⟨q, hlk, by rw [if_neg e, if_neg ha]⟩⟩
  | false =>
    have h4 : ¬ (n < l.length ∧ (l.getD n z25).f0 = p.f0) := fun h => by have := h3.2 h; cases this
    rw [if_neg h4] at hlk
    have hm := mg_new p l n hs h2 h4
    refine ⟨1, ?_, .inl ⟨rfl, hlk⟩⟩
    rw [if_neg Bool.false_ne_true, if_neg (by omega), if_pos (by omega), if_pos (by omega), ref_copied (by rw [List.length_take]; omega), Option.bind_some, Option.bind_some, if_pos (by rw [List.length_take]; simp only [List.length_cons, List.length_nil]; omega), Option.bind_some, Option.bind_some, if_pos (by simp only [List.length_append, List.length_take, List.length_drop, List.length_cons, List.length_nil]; omega), hm]
    rfl
end Go.Proofs.Ytfjhommpgbppjaa.PP
