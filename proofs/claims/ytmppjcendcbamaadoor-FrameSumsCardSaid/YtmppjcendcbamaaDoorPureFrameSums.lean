/- FrameSums: the pure statement, without program and memory. -/
import Derived.Test.YtmppjcendcbamaaDoorQ7
import Derived.Test.YtmppjcendcbamaaDoorRT
import Derived.Test.YtmppjcendcbamaaDoorF3
namespace Go.Proofs.YtmppjcendcbamaaDoor.Pure
open Go.RowKit Go.Proofs.YtmppjcendcbamaaDoor.Q Go.Proofs.YtmppjcendcbamaaDoorW.PrintWords Go.Proofs.YtmppjcendcbamaaDoorW.PrintLast Go.Proofs.YtmppjcendcbamaaDoorW.PrintMore

theorem FrameSums : ∀ (a0 : Int) (l1 : List (Int)) (l2 : List (Int)), (Lit.int .u32 a0).wf = true → (l1.length ≤ maxLen ∧ ∀ y ∈ l1, (Lit.int .u8 y).wf = true) → (l2.length ≤ maxLen ∧ ∀ y ∈ l2, (Lit.int .u8 y).wf = true) → ∃ k, manometerlaw02_FrameSums.f k a0 l1 l2 = some true := by
  intro s a b hs ⟨_, ha⟩ ⟨_, hb⟩
  replace ha := FF.By.of_wf ha
  replace hb := FF.By.of_wf hb
  obtain ⟨h0, h1⟩ := FF.u32_of_wf hs
  obtain ⟨s, rfl⟩ := FF.nat_of h0
  have hs' : s < 4294967296 := by omega
  obtain ⟨k, hk⟩ : ∃ k, k = 10 * (a.length + b.length) + 1000 := ⟨_, rfl⟩
  refine ⟨k + 1, ?_⟩
  have hlive : manometerlaw02_live.f k = some true := FF.live _ (by omega)
  have hT : manometerlaw02_FrameSums.j0 (k + 1) (s : Int) a b true = some true := by
    rw [manometerlaw02_FrameSums.j0, if_pos rfl, hlive, Option.bind_some, if_pos rfl]
  unfold manometerlaw02_FrameSums.f
  rw [FF.live _ (by omega), Option.bind_some, if_pos rfl]
  by_cases h4 : (a.length : Int) > 4000
  · rw [if_pos h4]; exact hT
  · rw [if_neg h4]
    by_cases h5 : (b.length : Int) > 4000
    · rw [decide_eq_true h5]; exact hT
    · have e : ([a, b] : List (List Int)).flatten = a ++ b := by simp
      have hp : ∀ p ∈ ([a, b] : List (List Int)), FF.By p := by
        intro p hp
        simp only [List.mem_cons, List.not_mem_nil, or_false] at hp
        rcases hp with rfl | rfl
        · exact ha
        · exact hb
      rw [decide_eq_false h5, manometerlaw02_FrameSums.j0, if_neg Bool.false_ne_true, FF.sum hp (by simp) (by simp; omega), Option.bind_some, FF.join (by simp) (by rw [e, List.length_append]; omega) (by simp; omega), Option.bind_some, e,
        FF.ref_sum (ha.append hb) (by rw [List.length_append]; omega) (by rw [List.length_append]; omega), Option.bind_some, if_pos rfl, FF.more_f hs' ha, Option.bind_some, FF.ref_more hs' ha (by omega) (by omega), Option.bind_some, if_pos rfl, FF.mask hs', Option.bind_some, FF.ref_mask, FF.mask hs', Option.bind_some, if_pos rfl,
        FF.unmask hs', Option.bind_some, FF.ref_unmask, FF.unmask hs', Option.bind_some, beq_self_eq_true]
end Go.Proofs.YtmppjcendcbamaaDoor.Pure
