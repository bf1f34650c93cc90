/- FrameTorn: the pure statement, without program and memory. -/
import Derived.Test.YtmppjcendcbamaaDoorQ10
import Derived.Test.YtmppjcendcbamaaDoorRT
import Derived.Test.YtmppjcendcbamaaDoorF8
namespace Go.Proofs.YtmppjcendcbamaaDoor.Pure
open Go.RowKit Go.Proofs.YtmppjcendcbamaaDoor.Q Go.Proofs.YtmppjcendcbamaaDoorW.PrintWords Go.Proofs.YtmppjcendcbamaaDoorW.PrintLast Go.Proofs.YtmppjcendcbamaaDoorW.PrintMore

theorem frameTorn_end (l : List (List Int)) (c w : Nat) (S : Nat) (hS : S ≤ c) (hc : c ≤ 100000) (h4 : ∀ p ∈ l, p.length ≤ 4000) (hn : l.length ≤ 100) (hw : w ≤ l.length) (k : Nat) (hk : 5000 ≤ k) :
    manometerlaw02_FrameTorn.j2 (k + 1) l (c : Int) (l.take w) (S : Int) ((if S = c then 0 else 6 : Nat) : Int) (w : Int) (S : Int) false = some true := by
  have hs : manometerlaw02_same.f k (l.take w) (l.take w) = some true := FF.same (M := 4000) (by omega) (fun p hp => h4 p (List.mem_of_mem_take hp)) (by rw [List.length_take]; omega) (by rw [List.length_take]; omega)
  rw [manometerlaw02_FrameTorn.j2, if_neg Bool.false_ne_true, if_pos (by omega), if_pos (by omega), Int.toNat_natCast, hs, Option.bind_some, if_pos rfl, if_pos rfl]
  by_cases h : S = c
  · rw [if_pos h, h, if_pos (by simp)]; rfl
  · have h1 : ((S : Int) == (c : Int)) = false := beq_eq_false_iff_ne.2 (by omega)
    rw [if_neg h, h1]
    rfl
theorem frameTorn_l0 (l : List (List Int)) (c w S : Nat) (hc : c ≤ 100000) (h4 : ∀ p ∈ l, p.length ≤ 4000) (hn : l.length ≤ 100) (hw : w ≤ l.length) (hSc : S ≤ c) (d : Nat) : ∀ (k i a : Nat), i ≤ l.length → l.length - i = d → 2 * d + 6000 ≤ k → a ≤ c →
    w = i + (FF.wh (l.drop i) (c - a)).1 → S = a + (FF.wh (l.drop i) (c - a)).2 →
    manometerlaw02_FrameTorn.l0 k l (c : Int) (l.take w) (S : Int) ((if S = c then 0 else 6 : Nat) : Int) (i : Int) (a : Int) = some true := by
  induction d with
  | zero =>
    intro k i a hi hd hk ha h1 h2
    obtain ⟨k, rfl⟩ : ∃ m, k = m + 2 := ⟨k - 2, by omega⟩
    rw [List.drop_eq_nil_of_le (by omega)] at h1 h2
    simp only [FF.wh, Nat.add_zero] at h1 h2
    subst h1 h2
    rw [manometerlaw02_FrameTorn.l0, if_neg (by omega)]
    exact frameTorn_end l c w S hSc hc h4 hn hw k (by omega)
  | succ d ih =>
    intro k i a hi hd hk ha h1 h2
    obtain ⟨k, rfl⟩ : ∃ m, k = m + 2 := ⟨k - 2, by omega⟩
    have hil : i < l.length := by omega
    have hp := h4 _ (List.getElem_mem hil)
    have hlen := FF.fr_len l[i]
    have hhd := FF.hd_len l[i].length
    have a1 : (i : Int) < (l.length : Int) := by omega
    have a2 : (0 : Int) ≤ (i : Int) := by omega
    rw [List.drop_eq_getElem_cons hil] at h1 h2
    rw [FF.wh] at h1 h2
    have hsz : ∀ k : Nat, 20 ≤ k → frame_Size.f k (l[i].length : Int) = some (((FF.fr l[i]).length : Nat) : Int) := fun k hk => by rw [FF.size (by omega) hk, hlen]
    have hw2 : wrap64 ((a : Int) + ((FF.fr l[i]).length : Int)) = ((a + (FF.fr l[i]).length : Nat) : Int) := by rw [FF.wrap_in (by omega) (by omega)]; omega
    have hw1 : wrap64 ((i : Int) + 1) = ((i + 1 : Nat) : Int) := by rw [FF.wrap_in (by omega) (by omega)]; omega
    rw [manometerlaw02_FrameTorn.l0, if_pos a1, if_pos a2, FF.rd2_lt hil, hsz _ (by omega), Option.bind_some, hw2]
    by_cases hle : (FF.fr l[i]).length ≤ c - a
    · rw [if_pos hle] at h1 h2
      rw [show decide (((a + (FF.fr l[i]).length : Nat) : Int) ≤ (c : Int)) = true from decide_eq_true (by clear hw1 hw2; omega), manometerlaw02_FrameTorn.j2, if_pos rfl, if_pos a2, if_pos a1, FF.rd2_lt hil, hsz _ (by clear hw1 hw2; omega), Option.bind_some, hw1, hw2]
      clear hw1 hw2
      exact ih k (i + 1) (a + (FF.fr l[i]).length) (by omega) (by omega) (by omega) (by omega) (by rw [show c - (a + (FF.fr l[i]).length) = c - a - (FF.fr l[i]).length by omega]; simp only at h1; omega) (by rw [show c - (a + (FF.fr l[i]).length) = c - a - (FF.fr l[i]).length by omega]; simp only at h2; omega)
    · rw [if_neg hle] at h1 h2
      clear hw1 hw2
      simp only [Nat.add_zero] at h1 h2
      subst h1 h2
      rw [show decide (((S + (FF.fr l[w]).length : Nat) : Int) ≤ (c : Int)) = false from decide_eq_false (by omega)]
      exact frameTorn_end l c w S hSc hc h4 hn hw k (by omega)
theorem FrameTorn : ∀ (l0 : List (List (Int))) (a1 : Int), (l0.length ≤ maxLen ∧ ∀ y ∈ l0, (y.length ≤ maxLen ∧ ∀ y1 ∈ y, (Lit.int .u8 y1).wf = true)) → (Lit.int .i64 a1).wf = true → ∃ k, manometerlaw02_FrameTorn.f k l0 a1 = some true := by
  intro l cut ⟨hl, hw⟩ _
  have hb : ∀ p ∈ l, FF.By p := fun p hp => FF.By.of_wf (hw p hp).2
  have hm : ∀ p ∈ l, p.length ≤ 9223372036854775807 := fun p hp => (hw p hp).1
  obtain ⟨k, hk⟩ : ∃ k, k = l.length + 20000 := ⟨_, rfl⟩
  refine ⟨k + 1, ?_⟩
  obtain ⟨r, h1, h2⟩ := FF.few hl hm (k := k + 1) (by omega)
  have hlive : manometerlaw02_live.f (k + 1) = some true := FF.live _ (by omega)
  unfold manometerlaw02_FrameTorn.f
  rw [hlive, Option.bind_some, if_pos rfl, h1, Option.bind_some]
  cases r with
  | false => rw [if_neg Bool.false_ne_true, Option.bind_some, if_pos rfl]
  | true =>
    obtain ⟨hF, hn⟩ := h2 rfl
    have h4 := FF.mem_len hF
    have hfl := FF.frs_len l
    have hfb := FF.frs_by hb
    have hT : manometerlaw02_FrameTorn.j0 (k + 1) l cut (FF.frs l) true true = some true := by
      rw [manometerlaw02_FrameTorn.j0, if_pos rfl]
    rw [if_pos rfl, FF.laid hb hn hF (by omega), Option.bind_some, if_pos rfl]
    dsimp only
    by_cases h5 : cut < 0
    · rw [if_pos h5]; exact hT
    · rw [if_neg h5]
      by_cases h6 : cut > ((FF.frs l).length : Int)
      · rw [decide_eq_true h6]; exact hT
      · obtain ⟨c, rfl⟩ := FF.nat_of (s := cut) (by omega)
        have hlt : ((FF.frs l).take c).length = c := by rw [List.length_take]; omega
        have hle := FF.wh_le l c
        rw [decide_eq_false h6, manometerlaw02_FrameTorn.j0, if_neg Bool.false_ne_true, if_pos (by omega), if_pos (by omega), Int.toNat_natCast, FF.all (hfb.take c) (by omega) (by omega), Option.bind_some, hlt, FF.all_torn l c c 0 h4 (by omega) (Nat.le_refl _) (by omega)]
        dsimp only [FF.ai]
        rw [Nat.zero_add]
        exact frameTorn_l0 l c (FF.wh l c).1 (FF.wh l c).2 (by omega) h4 hn hle.1 hle.2 l.length k 0 0 (by omega) (by omega) (by omega) (by omega) (by rw [List.drop_zero, Nat.sub_zero, Nat.zero_add]) (by rw [List.drop_zero, Nat.sub_zero, Nat.zero_add])
end Go.Proofs.YtmppjcendcbamaaDoor.Pure
