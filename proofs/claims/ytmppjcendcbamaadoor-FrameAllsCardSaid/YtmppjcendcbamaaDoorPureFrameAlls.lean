/- FrameAlls: the pure statement, without program and memory. -/
import Derived.Test.YtmppjcendcbamaaDoorQ8
import Derived.Test.YtmppjcendcbamaaDoorRT
import Derived.Test.YtmppjcendcbamaaDoorF7
namespace Go.Proofs.YtmppjcendcbamaaDoor.Pure
open Go.RowKit Go.Proofs.YtmppjcendcbamaaDoor.Q Go.Proofs.YtmppjcendcbamaaDoorW.PrintWords Go.Proofs.YtmppjcendcbamaaDoorW.PrintLast Go.Proofs.YtmppjcendcbamaaDoorW.PrintMore

theorem FrameAlls : ∀ (l0 : List (Int)), (l0.length ≤ maxLen ∧ ∀ y ∈ l0, (Lit.int .u8 y).wf = true) → ∃ k, manometerlaw02_FrameAlls.f k l0 = some true := by
  intro b ⟨_, hw⟩
  have hb := FF.By.of_wf hw
  obtain ⟨k, hk⟩ : ∃ k, k = 20 * b.length + 1000 := ⟨_, rfl⟩
  refine ⟨k, ?_⟩
  unfold manometerlaw02_FrameAlls.f
  have hlive : manometerlaw02_live.f k = some true := FF.live _ (by omega)
  rw [hlive, Option.bind_some, if_pos rfl]
  by_cases h4 : (b.length : Int) > 4000
  · rw [if_pos h4, Option.bind_some, if_pos rfl]
  · obtain ⟨h1, h2⟩ := FF.allN_len b.length b 0 hb
    rw [if_neg h4, FF.all hb (by omega) (by omega), Option.bind_some, FF.ref_all hb (by omega) (by omega), Option.bind_some]
    rw [show manometerlaw02_same.f k (FF.ai (FF.allN b.length b 0)).1 (FF.ai (FF.allN b.length b 0)).1 = some true from FF.same (M := b.length) (by omega) h2 (by omega) (by omega), Option.bind_some, if_pos rfl, if_pos rfl, beq_self_eq_true]
end Go.Proofs.YtmppjcendcbamaaDoor.Pure
