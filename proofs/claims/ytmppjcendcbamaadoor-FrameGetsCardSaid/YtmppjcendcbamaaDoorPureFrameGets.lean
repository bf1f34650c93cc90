/- FrameGets: the pure statement, without program and memory. -/
import Derived.Test.YtmppjcendcbamaaDoorQ6
import Derived.Test.YtmppjcendcbamaaDoorRT
import Derived.Test.YtmppjcendcbamaaDoorF5
namespace Go.Proofs.YtmppjcendcbamaaDoor.Pure
open Go.RowKit Go.Proofs.YtmppjcendcbamaaDoor.Q Go.Proofs.YtmppjcendcbamaaDoorW.PrintWords Go.Proofs.YtmppjcendcbamaaDoorW.PrintLast Go.Proofs.YtmppjcendcbamaaDoorW.PrintMore

theorem frameGets_l0 (x : List Int) (n e : Int) (hx : x.length ≤ 9223372036854775806) (m : Nat) (hm : m ≤ 9223372036854775806) (d : Nat) : ∀ (k i : Nat) (o : List Int), o.length = m → i ≤ m → m - i = d → d + x.length + 1 < k →
    manometerlaw02_FrameGets.l0 k o x n e x n e (m : Int) (i : Int) = some true := by
  induction d with
  | zero =>
    intro k i o ho hi hd hk
    obtain ⟨k, rfl⟩ : ∃ m, k = m + 1 := ⟨k - 1, by omega⟩
    rw [manometerlaw02_FrameGets.l0, if_neg (by omega), FF.equal_self x hx (by omega), Option.bind_some, if_pos rfl, if_pos rfl, beq_self_eq_true]
  | succ d ih =>
    intro k i o ho hi hd hk
    obtain ⟨k, rfl⟩ : ∃ m, k = m + 1 := ⟨k - 1, by omega⟩
    rw [manometerlaw02_FrameGets.l0, if_pos (by omega), if_pos (by omega), if_pos (by omega), show wrap64 ((i : Int) + 1) = ((i + 1 : Nat) : Int) by rw [FF.wrap_in (by omega) (by omega)]; omega]
    exact ih k (i + 1) _ (by rw [List.length_set]; exact ho) (by omega) (by omega) (by omega)
theorem FrameGets : ∀ (l0 : List (Int)), (l0.length ≤ maxLen ∧ ∀ y ∈ l0, (Lit.int .u8 y).wf = true) → ∃ k, manometerlaw02_FrameGets.f k l0 = some true := by
  intro b ⟨_, hw⟩
  have hb := FF.By.of_wf hw
  obtain ⟨k, hk⟩ : ∃ k, k = 20 * b.length + 1000 := ⟨_, rfl⟩
  refine ⟨k, ?_⟩
  unfold manometerlaw02_FrameGets.f
  have hlive : manometerlaw02_live.f k = some true := FF.live _ (by omega)
  rw [hlive, Option.bind_some, if_pos rfl]
  by_cases h4 : (b.length : Int) > 4000
  · rw [if_pos h4, Option.bind_some, if_pos rfl]
  · have e : ([b] : List (List Int)).flatten = b := by simp
    have hg := (FF.getN_by hb).2
    rw [if_neg h4, FF.join (by simp) (by rw [e]; omega) (by simp; omega), Option.bind_some, e, FF.get hb (by omega) (by omega), Option.bind_some, FF.ref_get hb (by omega) (by omega), Option.bind_some, FF.equal_self b (by omega) (by omega), Option.bind_some, if_pos rfl]
    exact frameGets_l0 _ _ _ (by show (FF.getN b).1.length ≤ _; omega) b.length (by omega) b.length k 0 b rfl (by omega) (by omega) (by show _ + (FF.getN b).1.length + 1 < k; omega)
end Go.Proofs.YtmppjcendcbamaaDoor.Pure
