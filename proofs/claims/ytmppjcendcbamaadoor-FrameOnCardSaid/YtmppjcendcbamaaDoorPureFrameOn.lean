/- FrameOn: the pure statement, without program and memory. -/
import Derived.Test.YtmppjcendcbamaaDoorQ7
import Derived.Test.YtmppjcendcbamaaDoorRT
import Derived.Test.YtmppjcendcbamaaDoorF3
namespace Go.Proofs.YtmppjcendcbamaaDoor.Pure
open Go.RowKit Go.Proofs.YtmppjcendcbamaaDoor.Q Go.Proofs.YtmppjcendcbamaaDoorW.PrintWords Go.Proofs.YtmppjcendcbamaaDoorW.PrintLast Go.Proofs.YtmppjcendcbamaaDoorW.PrintMore

theorem FrameOn : ∀ (a0 : Int) (l1 : List (Int)) (l2 : List (Int)), (Lit.int .u32 a0).wf = true → (l1.length ≤ maxLen ∧ ∀ y ∈ l1, (Lit.int .u8 y).wf = true) → (l2.length ≤ maxLen ∧ ∀ y ∈ l2, (Lit.int .u8 y).wf = true) → ∃ k, manometerlaw02_FrameOn.f k a0 l1 l2 = some true := by
  intro s a b hs ⟨_, ha⟩ ⟨_, hb⟩
  replace ha := FF.By.of_wf ha
  replace hb := FF.By.of_wf hb
  obtain ⟨h0, h1⟩ := FF.u32_of_wf hs
  obtain ⟨s, rfl⟩ := FF.nat_of h0
  have hs' : s < 4294967296 := by omega
  obtain ⟨k, hk⟩ : ∃ k, k = 10 * (a.length + b.length) + 1000 := ⟨_, rfl⟩
  refine ⟨k + 1, ?_⟩
  have hlive : manometerlaw02_live.f k = some true := FF.live _ (by omega)
  have hT : manometerlaw02_FrameOn.j0 (k + 1) (s : Int) a b true = some true := by
    rw [manometerlaw02_FrameOn.j0, if_pos rfl, hlive, Option.bind_some, if_pos rfl]
  unfold manometerlaw02_FrameOn.f
  rw [FF.live _ (by omega), Option.bind_some, if_pos rfl]
  by_cases h4 : (a.length : Int) > 4000
  · rw [if_pos h4]; exact hT
  · rw [if_neg h4]
    by_cases h5 : (b.length : Int) > 4000
    · rw [decide_eq_true h5]; exact hT
    · have e : ([a, b] : List (List Int)).flatten = a ++ b := by simp
      have e1 : ([a] : List (List Int)).flatten = a := by simp
      have hp : ∀ p ∈ ([a, b] : List (List Int)), FF.By p := by
        intro p hp
        simp only [List.mem_cons, List.not_mem_nil, or_false] at hp
        rcases hp with rfl | rfl
        · exact ha
        · exact hb
      have hp1 : ∀ p ∈ ([a] : List (List Int)), FF.By p := by
        intro p hp
        rw [List.mem_singleton] at hp
        rw [hp]; exact ha
      have z : (0 : Nat) < 4294967296 := by omega
      rw [decide_eq_false h5, manometerlaw02_FrameOn.j0, if_neg Bool.false_ne_true, FF.sum hp1 (by simp) (by simp; omega), Option.bind_some, e1, FF.more_f (FF.mo_lt z ha) hb, Option.bind_some, FF.mo_append, FF.sum hp (by simp) (by simp; omega), Option.bind_some, e, if_pos rfl,
        FF.more_f hs' ha, Option.bind_some, FF.more_f (FF.mo_lt hs' ha) hb, Option.bind_some, FF.mo_append, FF.join (by simp) (by rw [e, List.length_append]; omega) (by simp; omega), Option.bind_some, e, FF.more_f hs' (ha.append hb), Option.bind_some, if_pos rfl,
        FF.more_f hs' FF.By.nil, Option.bind_some, FF.mo_nil, if_pos rfl, FF.mask hs', Option.bind_some, FF.unmask (FF.mk_lt _), Option.bind_some, FF.un_mk hs', if_pos rfl, FF.unmask hs', Option.bind_some, FF.mask (FF.un_lt _), Option.bind_some, FF.mk_un hs', beq_self_eq_true]
end Go.Proofs.YtmppjcendcbamaaDoor.Pure
