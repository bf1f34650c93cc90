/- FrameBack: the pure statement, without program and memory. -/
import Derived.Test.YtmppjcendcbamaaDoorQ9
import Derived.Test.YtmppjcendcbamaaDoorRT
import Derived.Test.YtmppjcendcbamaaDoorF8
namespace Go.Proofs.YtmppjcendcbamaaDoor.Pure
open Go.RowKit Go.Proofs.YtmppjcendcbamaaDoor.Q Go.Proofs.YtmppjcendcbamaaDoorW.PrintWords Go.Proofs.YtmppjcendcbamaaDoorW.PrintLast Go.Proofs.YtmppjcendcbamaaDoorW.PrintMore

theorem frameBack_j0 (l : List (List Int)) (q : List Int) (hb : ∀ p ∈ l, FF.By p) (hq : FF.By q) (hql : q.length ≤ 4000) (hF : l.flatten.length ≤ 4000) (hn : l.length ≤ 100) (k : Nat) (hk : 20000 ≤ k) :
    manometerlaw02_FrameBack.j0 (k + 2) l q false = some true := by
  have h4 := FF.mem_len hF
  have hfl := FF.frs_len l
  have hfb := FF.frs_by hb
  have hs : manometerlaw02_same.f (k + 1) l l = some true := FF.same (M := 4000) (by omega) h4 (by omega) (by omega)
  rw [manometerlaw02_FrameBack.j0, if_neg Bool.false_ne_true, FF.laid hb hn hF (by omega), Option.bind_some, if_pos rfl]
  dsimp only
  rw [FF.all hfb (by omega) (by omega), Option.bind_some, FF.all_frs h4]
  dsimp only [FF.ai]
  rw [hs, Option.bind_some, if_pos rfl, if_pos rfl, show (((0 : Nat) : Int) != 0) = false from rfl, manometerlaw02_FrameBack.j1, if_neg Bool.false_ne_true]
  cases l with
  | nil => rfl
  | cons p l =>
    have hp := h4 p (by simp)
    have hpb := hb p (by simp)
    have e : ([FF.frs (p :: l), q] : List (List Int)).flatten = FF.fr p ++ (FF.frs l ++ q) := by simp [FF.frs_cons]
    have hl2 : (FF.fr p ++ (FF.frs l ++ q)).length = (FF.frs (p :: l)).length + q.length := by rw [← e]; simp
    have hby : FF.By (FF.fr p ++ (FF.frs l ++ q)) := by
      rw [← e]
      intro c hc
      simp only [List.flatten_cons, List.flatten_nil, List.append_nil] at hc
      exact (hfb.append hq) c hc
    have hlen : ¬ (((p :: l).length : Int) = 0) := by rw [List.length_cons]; omega
    have hlen2 : (0 : Int) < ((p :: l).length : Int) := by rw [List.length_cons]; omega
    have hrd : rd_L2 (p :: l) 0 = p := rfl
    have hfp := FF.fr_len p
    have hhd := FF.hd_len p.length
    rw [if_neg hlen, FF.join (by simp) (by rw [e, hl2]; omega) (by simp; omega), Option.bind_some, e, FF.get hby (by omega) (by omega), Option.bind_some, FF.getN_fr (by omega), if_pos hlen2, hrd]
    dsimp only [FF.gi]
    rw [FF.equal_self p (by omega) (by omega), Option.bind_some, if_pos rfl, FF.size (by omega) (by omega), Option.bind_some, hfp, if_pos rfl]
    rfl
theorem FrameBack : ∀ (l0 : List (List (Int))) (l1 : List (Int)), (l0.length ≤ maxLen ∧ ∀ y ∈ l0, (y.length ≤ maxLen ∧ ∀ y1 ∈ y, (Lit.int .u8 y1).wf = true)) → (l1.length ≤ maxLen ∧ ∀ y ∈ l1, (Lit.int .u8 y).wf = true) → ∃ k, manometerlaw02_FrameBack.f k l0 l1 = some true := by
  intro l q ⟨hl, hw⟩ ⟨_, hw1⟩
  have hq := FF.By.of_wf hw1
  have hb : ∀ p ∈ l, FF.By p := fun p hp => FF.By.of_wf (hw p hp).2
  have hm : ∀ p ∈ l, p.length ≤ 9223372036854775807 := fun p hp => (hw p hp).1
  obtain ⟨k, hk⟩ : ∃ k, k = l.length + 20000 := ⟨_, rfl⟩
  refine ⟨k + 2, ?_⟩
  have hT : manometerlaw02_FrameBack.j0 (k + 2) l q true = some true := by
    rw [manometerlaw02_FrameBack.j0, if_pos rfl, FF.live _ (by omega), Option.bind_some, if_pos rfl]
  obtain ⟨r, h1, h2⟩ := FF.few hl hm (k := k + 2) (by omega)
  unfold manometerlaw02_FrameBack.f
  rw [FF.live _ (by omega), Option.bind_some, if_pos rfl, h1, Option.bind_some]
  cases r with
  | false => rw [if_neg Bool.false_ne_true]; exact hT
  | true =>
    obtain ⟨h3, h4⟩ := h2 rfl
    rw [if_pos rfl]
    by_cases h5 : (q.length : Int) > 4000
    · rw [decide_eq_true h5]; exact hT
    · rw [decide_eq_false h5]; exact frameBack_j0 l q hb hq (by omega) h3 h4 k (by omega)
end Go.Proofs.YtmppjcendcbamaaDoor.Pure
