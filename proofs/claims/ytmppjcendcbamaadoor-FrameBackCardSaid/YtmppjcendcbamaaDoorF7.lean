/- Plain laws of frame, on: all frames, one behind the other. -/
import Derived.Test.YtmppjcendcbamaaDoorF6
import Derived.Test.YtmppjcendcbamaaDoorQ7
import Derived.Test.YtmppjcendcbamaaDoorQ8
namespace Go.Proofs.YtmppjcendcbamaaDoor.FF
open Go.RowKit Go.Proofs.YtmppjcendcbamaaDoor.Q Go.Proofs.YtmppjcendcbamaaDoorW.PrintWords Go.Proofs.YtmppjcendcbamaaDoorW.PrintLast Go.Proofs.YtmppjcendcbamaaDoorW.PrintMore
set_option linter.unusedVariables false

/-- All frames that bytes begin with; the bytes ahead of them being counted. -/
def allN : Nat → List Int → Nat → List (List Int) × Nat × Nat
  | 0, _, at_ => ([], at_, 0)
  | f + 1, b, at_ =>
    if b.length = 0 then ([], at_, 0)
    else if (getN b).2.2 = 0 then ((getN b).1 :: (allN f (b.drop (getN b).2.1) (at_ + (getN b).2.1)).1, (allN f (b.drop (getN b).2.1) (at_ + (getN b).2.1)).2)
    else ([], at_, (getN b).2.2)
abbrev ai (r : List (List Int) × Nat × Nat) : List (List Int) × Int × Int := (r.1, (r.2.1 : Int), (r.2.2 : Int))
theorem all_loop (b : List Int) (hb : By b) (hn : b.length ≤ 100000000) (d : Nat) : ∀ (k at_ : Nat) (out : List (List Int)), b.length - at_ ≤ d → at_ ≤ b.length → d + 50 < k → out.length + d ≤ 1000000000 →
    frame_All.l0 k b out (at_ : Int) = some (out ++ (allN d (b.drop at_) at_).1, ((allN d (b.drop at_) at_).2.1 : Int), ((allN d (b.drop at_) at_).2.2 : Int)) := by
  induction d with
  | zero =>
    intro k at_ out h1 h2 hk ho
    obtain ⟨k, rfl⟩ : ∃ m, k = m + 1 := ⟨k - 1, by omega⟩
    rw [frame_All.l0, if_neg (by omega)]
    simp [allN]
  | succ d ih =>
    intro k at_ out h1 h2 hk ho
    obtain ⟨k, rfl⟩ : ∃ m, k = m + 1 := ⟨k - 1, by omega⟩
    have hl : (b.drop at_).length = b.length - at_ := List.length_drop
    rw [frame_All.l0]
    by_cases hlt : at_ < b.length
    · rw [if_pos (by omega), if_pos (by omega), if_pos (by omega), Int.toNat_natCast, get (hb.drop _) (by omega) (by omega), Option.bind_some, allN, if_neg (show ¬ (b.drop at_).length = 0 by omega)]
      obtain ⟨g, hg⟩ : ∃ g, g = getN (b.drop at_) := ⟨_, rfl⟩
      have hgl := getN_len (b := b.drop at_)
      rw [← hg] at hgl ⊢
      by_cases he : g.2.2 = 0
      · obtain ⟨g1, g2⟩ := hgl he
        have hw : wrap64 ((at_ : Int) + (g.2.1 : Int)) = ((at_ + g.2.1 : Nat) : Int) := by rw [wrap_in (by omega) (by omega)]; omega
        have := ih k (at_ + g.2.1) (out ++ [g.1]) (by omega) (by omega) (by omega) (by simp only [List.length_append, List.length_cons, List.length_nil]; omega)
        rw [if_pos he, if_pos (show ((gi g).2.2 : Int) = 0 by show (g.2.2 : Int) = 0; omega), if_pos (by omega), show wrap64 ((at_ : Int) + (gi g).2.1) = ((at_ + g.2.1 : Nat) : Int) from hw, List.drop_drop]
        refine this.trans ?_
        simp only [List.append_assoc, List.cons_append, List.nil_append]
      · rw [if_neg he, if_neg (show ¬ ((gi g).2.2 : Int) = 0 by show ¬ (g.2.2 : Int) = 0; omega)]
        simp only [List.append_nil]
    · rw [if_neg (by omega), allN, if_pos (show (b.drop at_).length = 0 by omega)]
      simp
theorem ref_loop_all (b : List Int) (hb : By b) (hn : b.length ≤ 100000000) (d : Nat) : ∀ (k at_ : Nat) (out : List (List Int)), b.length - at_ ≤ d → at_ ≤ b.length → d + 10 * b.length + 50 < k → out.length + d ≤ 1000000000 →
    manometerref02_All.l0 k b out (at_ : Int) = some (out ++ (allN d (b.drop at_) at_).1, ((allN d (b.drop at_) at_).2.1 : Int), ((allN d (b.drop at_) at_).2.2 : Int)) := by
  induction d with
  | zero =>
    intro k at_ out h1 h2 hk ho
    obtain ⟨k, rfl⟩ : ∃ m, k = m + 1 := ⟨k - 1, by omega⟩
    rw [manometerref02_All.l0, if_neg (by omega)]
    simp [allN]
  | succ d ih =>
    intro k at_ out h1 h2 hk ho
    obtain ⟨k, rfl⟩ : ∃ m, k = m + 1 := ⟨k - 1, by omega⟩
    have hl : (b.drop at_).length = b.length - at_ := List.length_drop
    rw [manometerref02_All.l0]
    by_cases hlt : at_ < b.length
    · rw [if_pos (by omega), if_pos (by omega), if_pos (by omega), Int.toNat_natCast, ref_get (hb.drop _) (by omega) (by omega), Option.bind_some, allN, if_neg (show ¬ (b.drop at_).length = 0 by omega)]
      obtain ⟨g, hg⟩ : ∃ g, g = getN (b.drop at_) := ⟨_, rfl⟩
      have hgl := getN_len (b := b.drop at_)
      rw [← hg] at hgl ⊢
      by_cases he : g.2.2 = 0
      · obtain ⟨g1, g2⟩ := hgl he
        have hw : wrap64 ((at_ : Int) + (g.2.1 : Int)) = ((at_ + g.2.1 : Nat) : Int) := by rw [wrap_in (by omega) (by omega)]; omega
        have := ih k (at_ + g.2.1) (out ++ [g.1]) (by omega) (by omega) (by omega) (by simp only [List.length_append, List.length_cons, List.length_nil]; omega)
        rw [if_pos he, if_pos (show ((gi g).2.2 : Int) = 0 by show (g.2.2 : Int) = 0; omega), if_pos (by omega), show wrap64 ((at_ : Int) + (gi g).2.1) = ((at_ + g.2.1 : Nat) : Int) from hw, List.drop_drop]
        refine this.trans ?_
        simp only [List.append_assoc, List.cons_append, List.nil_append]
      · rw [if_neg he, if_neg (show ¬ ((gi g).2.2 : Int) = 0 by show ¬ (g.2.2 : Int) = 0; omega)]
        simp only [List.append_nil]
    · rw [if_neg (by omega), allN, if_pos (show (b.drop at_).length = 0 by omega)]
      simp
theorem all {b : List Int} (hb : By b) (hn : b.length ≤ 100000000) {k : Nat} (hk : b.length + 50 < k) : frame_All.f k b = some (ai (allN b.length b 0)) := by
  have := all_loop b hb hn b.length k 0 [] (by omega) (by omega) hk (by simp; omega)
  rw [List.nil_append, List.drop_zero] at this
  exact this
theorem ref_all {b : List Int} (hb : By b) (hn : b.length ≤ 100000000) {k : Nat} (hk : 11 * b.length + 50 < k) : manometerref02_All.f k b = some (ai (allN b.length b 0)) := by
  have := ref_loop_all b hb hn b.length k 0 [] (by omega) (by omega) (by omega) (by simp; omega)
  rw [List.nil_append, List.drop_zero] at this
  exact this
theorem allN_len (f : Nat) : ∀ (b : List Int) (at_ : Nat), By b → (allN f b at_).1.length ≤ f ∧ ∀ p ∈ (allN f b at_).1, p.length ≤ b.length := by
  induction f with
  | zero => intro b at_ _; simp [allN]
  | succ f ih =>
    intro b at_ hb
    rw [allN]
    split
    · simp
    · split
      · have h := ih (b.drop (getN b).2.1) (at_ + (getN b).2.1) (hb.drop _)
        have hg := (getN_by hb).2
        refine ⟨by simp only [List.length_cons]; omega, fun p hp => ?_⟩
        rcases List.mem_cons.1 hp with e | e
        · rw [e]; exact hg
        · have := h.2 p e; rw [List.length_drop] at this; omega
      · simp
theorem same_loop (l : List (List Int)) (M : Nat) (hM : M ≤ 9223372036854775806) (hl : ∀ p ∈ l, p.length ≤ M) (hn : l.length ≤ 9223372036854775806) (d : Nat) : ∀ (k i : Nat), i ≤ l.length → l.length - i = d → d + M + 1 < k →
    manometerlaw02_same.l0 k l l (l.length : Int) (i : Int) = some true := by
  induction d with
  | zero =>
    intro k i hi hd hk
    obtain ⟨k, rfl⟩ : ∃ m, k = m + 1 := ⟨k - 1, by omega⟩
    rw [manometerlaw02_same.l0, if_neg (by omega)]
  | succ d ih =>
    intro k i hi hd hk
    obtain ⟨k, rfl⟩ : ∃ m, k = m + 1 := ⟨k - 1, by omega⟩
    have hil : i < l.length := by omega
    have hrd : rd_L2 l (i : Int) = l[i] := by
      show l.getD i [] = _
      simp [List.getD, hil]
    have := hl _ (List.getElem_mem hil)
    rw [manometerlaw02_same.l0, if_pos (by omega), if_pos (by omega), if_pos (by omega), if_pos (by omega), hrd, equal_self _ (by omega) (by omega), Option.bind_some, if_pos rfl, show wrap64 ((i : Int) + 1) = ((i + 1 : Nat) : Int) by rw [wrap_in (by omega) (by omega)]; omega]
    exact ih k (i + 1) (by omega) (by omega) (by omega)
theorem same {l : List (List Int)} {M : Nat} (hM : M ≤ 9223372036854775806) (hl : ∀ p ∈ l, p.length ≤ M) (hn : l.length ≤ 9223372036854775806) {k : Nat} (hk : l.length + M + 1 < k) : manometerlaw02_same.f k l l = some true := by
  unfold manometerlaw02_same.f
  rw [if_pos rfl]
  exact same_loop l M hM hl hn l.length k 0 (by omega) (by omega) hk
end Go.Proofs.YtmppjcendcbamaaDoor.FF
