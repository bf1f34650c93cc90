/- FramePuts: the pure statement, without program and memory. -/
import Derived.Test.YtmppjcendcbamaaDoorQ4
import Derived.Test.YtmppjcendcbamaaDoorRT
import Derived.Test.YtmppjcendcbamaaDoorF3
namespace Go.Proofs.YtmppjcendcbamaaDoor.Pure
open Go.RowKit Go.Proofs.YtmppjcendcbamaaDoor.Q Go.Proofs.YtmppjcendcbamaaDoorW.PrintWords Go.Proofs.YtmppjcendcbamaaDoorW.PrintLast Go.Proofs.YtmppjcendcbamaaDoorW.PrintMore

theorem framePuts_j0 (b : List Int) (n : Int) (hb : FF.By b) (hm : b.length ≤ 9223372036854775806) (k : Nat) (hk : 20 * b.length + 400 ≤ k) : manometerlaw02_FramePuts.j0 (k + 1) b n false = some true := by
  obtain ⟨r, e1, e2⟩ := FF.size_same n (k := k) (by omega)
  rw [manometerlaw02_FramePuts.j0, if_neg Bool.false_ne_true]
  by_cases h : b.length ≤ 1048576
  · have hh := FF.hd_len b.length
    rw [FF.put hb h (by omega), Option.bind_some, FF.ref_put hb h (by omega), Option.bind_some, FF.equal_self _ (by rw [FF.fr_len]; omega) (by rw [FF.fr_len]; omega), Option.bind_some, if_pos rfl, if_pos rfl, e1, Option.bind_some, e2, Option.bind_some, beq_self_eq_true]
  · rw [FF.put_long h, Option.bind_some, FF.ref_put_long h, Option.bind_some, FF.equal_self _ (by simp) (by simp; omega), Option.bind_some, if_pos rfl, if_pos rfl, e1, Option.bind_some, e2, Option.bind_some, beq_self_eq_true]
theorem FramePuts : ∀ (l0 : List (Int)) (a1 : Int), (l0.length ≤ maxLen ∧ ∀ y ∈ l0, (Lit.int .u8 y).wf = true) → (Lit.int .i64 a1).wf = true → ∃ k, manometerlaw02_FramePuts.f k l0 a1 = some true := by
  intro b n ⟨hm, hw⟩ _
  have hb := FF.By.of_wf hw
  simp only [maxLen] at hm
  by_cases hbig : b.length = 9223372036854775807
  · refine ⟨41, ?_⟩
    unfold manometerlaw02_FramePuts.f
    rw [FF.live 41 (by omega), Option.bind_some, if_pos rfl, if_pos (by omega)]
    obtain ⟨r, e1, e2⟩ := FF.size_same n (k := 40) (by omega)
    rw [decide_eq_false (by omega), manometerlaw02_FramePuts.j0, if_neg Bool.false_ne_true, FF.put_long (by omega), Option.bind_some, FF.ref_put_long (by omega), Option.bind_some, FF.equal_self _ (by simp) (by simp), Option.bind_some, if_pos rfl, if_pos rfl, e1, Option.bind_some, e2, Option.bind_some, beq_self_eq_true]
  · refine ⟨20 * b.length + 400 + 1, ?_⟩
    unfold manometerlaw02_FramePuts.f
    rw [FF.live _ (by omega), Option.bind_some, if_pos rfl]
    by_cases h4 : (b.length : Int) > 4000
    · rw [if_pos h4]
      by_cases h5 : (b.length : Int) ≤ 1048576
      · rw [decide_eq_true h5, manometerlaw02_FramePuts.j0, if_pos rfl, FF.live _ (by omega), Option.bind_some, if_pos rfl]
      · rw [decide_eq_false h5]; exact framePuts_j0 b n hb (by omega) _ (by omega)
    · rw [if_neg h4]; exact framePuts_j0 b n hb (by omega) _ (by omega)
end Go.Proofs.YtmppjcendcbamaaDoor.Pure
