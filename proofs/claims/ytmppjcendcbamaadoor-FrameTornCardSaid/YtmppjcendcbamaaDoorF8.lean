/- Plain laws of frame, on: frames laid one behind the other, whole and torn. -/
import Derived.Test.YtmppjcendcbamaaDoorF7
import Derived.Test.YtmppjcendcbamaaDoorQ9
namespace Go.Proofs.YtmppjcendcbamaaDoor.FF
open Go.RowKit Go.Proofs.YtmppjcendcbamaaDoor.Q Go.Proofs.YtmppjcendcbamaaDoorW.PrintWords Go.Proofs.YtmppjcendcbamaaDoorW.PrintLast Go.Proofs.YtmppjcendcbamaaDoorW.PrintMore
set_option linter.unusedVariables false

theorem rd2_lt {l : List (List Int)} {i : Nat} (h : i < l.length) : rd_L2 l (i : Int) = l[i] := by
  show l.getD i [] = _
  simp [List.getD, h]
theorem few_loop (l : List (List Int)) (hn : l.length ≤ 9223372036854775807) (hm : ∀ p ∈ l, p.length ≤ 9223372036854775807) (d : Nat) : ∀ (k i n : Nat), i ≤ l.length → l.length - i = d → d < k → n ≤ 4000 →
    ∃ r, manometerlaw02_few.l0 k l (n : Int) l (l.length : Int) (i : Int) = some r ∧ (r = true → n + (l.drop i).flatten.length ≤ 4000 ∧ l.length ≤ 100) := by
  induction d with
  | zero =>
    intro k i n hi hd hk hn4
    obtain ⟨k, rfl⟩ : ∃ m, k = m + 1 := ⟨k - 1, by omega⟩
    rw [manometerlaw02_few.l0, if_neg (by omega), List.drop_eq_nil_of_le (by omega)]
    refine ⟨_, rfl, fun h => ⟨by simpa using hn4, ?_⟩⟩
    have := of_decide_eq_true h
    omega
  | succ d ih =>
    intro k i n hi hd hk hn4
    obtain ⟨k, rfl⟩ : ∃ m, k = m + 1 := ⟨k - 1, by omega⟩
    have hil : i < l.length := by omega
    have hp := hm _ (List.getElem_mem hil)
    obtain ⟨q, hq⟩ : ∃ q, q = l[i].length := ⟨_, rfl⟩
    rw [← hq] at hp
    obtain ⟨m, hm1, hm2⟩ : ∃ m : Nat, mn (q : Int) 5000 = (m : Int) ∧ (m = q ∧ q ≤ 5000 ∨ m = 5000 ∧ 5000 < q) := by
      unfold mn
      by_cases h5 : (5000 : Int) < (q : Int)
      · rw [if_pos h5]; exact ⟨5000, rfl, .inr ⟨rfl, by omega⟩⟩
      · rw [if_neg h5]; exact ⟨q, rfl, .inl ⟨rfl, by omega⟩⟩
    have a1 : (i : Int) < (l.length : Int) := by omega
    have a2 : (0 : Int) ≤ (i : Int) := by omega
    have hw : wrap64 ((n : Int) + (m : Int)) = ((n + m : Nat) : Int) := by rw [wrap_in (by omega) (by omega)]; omega
    have hw1 : wrap64 ((i : Int) + 1) = ((i + 1 : Nat) : Int) := by rw [wrap_in (by omega) (by omega)]; omega
    rw [manometerlaw02_few.l0, if_pos a1, if_pos a2, if_pos a1, rd2_lt hil, ← hq, hm1, hw, hw1]
    clear hm1 hw hw1
    by_cases h : n + m > 4000
    · rw [if_pos (by omega)]; exact ⟨false, rfl, fun h => by cases h⟩
    · rw [if_neg (by omega)]
      obtain ⟨r, h1, h2⟩ := ih k (i + 1) (n + m) (by omega) (by omega) (by omega) (by omega)
      refine ⟨r, h1, fun hr => ?_⟩
      obtain ⟨h3, h4⟩ := h2 hr
      rw [List.drop_eq_getElem_cons hil, List.flatten_cons, List.length_append, ← hq]
      exact ⟨by omega, h4⟩
theorem few {l : List (List Int)} (hn : l.length ≤ 9223372036854775807) (hm : ∀ p ∈ l, p.length ≤ 9223372036854775807) {k : Nat} (hk : l.length < k) : ∃ r, manometerlaw02_few.f k l = some r ∧ (r = true → l.flatten.length ≤ 4000 ∧ l.length ≤ 100) := by
  obtain ⟨r, h1, h2⟩ := few_loop l hn hm l.length k 0 0 (by omega) (by omega) hk (by omega)
  refine ⟨r, h1, fun h => ?_⟩
  have := h2 h
  rwa [List.drop_zero, Nat.zero_add] at this
/-- Frames one behind the other. -/
def frs (l : List (List Int)) : List Int := (l.map fr).flatten
theorem frs_cons (p : List Int) (l : List (List Int)) : frs (p :: l) = fr p ++ frs l := rfl
theorem frs_len (l : List (List Int)) : (frs l).length ≤ l.flatten.length + 14 * l.length := by
  induction l with
  | nil => simp [frs]
  | cons p l ih =>
    have := fr_len p
    have := hd_len p.length
    rw [frs_cons, List.length_append, List.flatten_cons, List.length_append, List.length_cons]; omega
theorem frs_by {l : List (List Int)} (h : ∀ p ∈ l, By p) : By (frs l) := By.flatten (fun p hp => by
  obtain ⟨q, hq, rfl⟩ := List.mem_map.1 hp
  exact fr_by (h q hq))
theorem frs_take (l : List (List Int)) (i : Nat) (h : i < l.length) : frs (l.take i) ++ fr l[i] = frs (l.take (i + 1)) := by
  rw [List.take_succ_eq_append_getElem h]
  simp only [frs, List.map_append, List.flatten_append, List.map_cons, List.map_nil, List.flatten_cons, List.flatten_nil, List.append_nil]
theorem mem_len {l : List (List Int)} {M : Nat} (h : l.flatten.length ≤ M) : ∀ p ∈ l, p.length ≤ M := by
  intro p hp
  induction l with
  | nil => cases hp
  | cons q l ih =>
    rw [List.flatten_cons, List.length_append] at h
    rcases List.mem_cons.1 hp with e | e
    · rw [e]; omega
    · exact ih (by omega) e
theorem laid_loop (l : List (List Int)) (hb : ∀ p ∈ l, By p) (h4 : ∀ p ∈ l, p.length ≤ 4000) (hn : l.length ≤ 100) (hF : l.flatten.length ≤ 4000) (d : Nat) : ∀ (k i : Nat), i ≤ l.length → l.length - i = d → 2 * d + 50 < k →
    manometerlaw02_laid.l0 k (frs (l.take i)) l (l.length : Int) (i : Int) = some (frs l, true) := by
  induction d with
  | zero =>
    intro k i hi hdd hk
    obtain ⟨k, rfl⟩ : ∃ m, k = m + 1 := ⟨k - 1, by omega⟩
    rw [manometerlaw02_laid.l0, if_neg (by omega), List.take_of_length_le (by omega)]
  | succ d ih =>
    intro k i hi hdd hk
    obtain ⟨k, rfl⟩ : ∃ m, k = m + 2 := ⟨k - 2, by omega⟩
    have hil : i < l.length := by omega
    have hp := h4 _ (List.getElem_mem hil)
    have hby := hb _ (List.getElem_mem hil)
    have hw1 : wrap64 ((i : Int) + 1) = ((i + 1 : Nat) : Int) := by rw [wrap_in (by omega) (by omega)]; omega
    have hlen := fr_len l[i]
    have htot := frs_len l
    have hpre : (frs (l.take (i + 1))).length ≤ (frs l).length := by
      have : frs l = frs (l.take (i + 1)) ++ frs (l.drop (i + 1)) := by
        conv => lhs; rw [← List.take_append_drop (i + 1) l]
        simp only [frs, List.map_append, List.flatten_append]
      rw [this, List.length_append]; omega
    have hlen2 : (frs (l.take i)).length + (fr l[i]).length < 140737488355328 := by
      rw [← List.length_append, frs_take l i hil]; omega
    rw [manometerlaw02_laid.l0, if_pos (by omega), if_pos (by omega), if_pos (by omega), rd2_lt hil, put hby (by omega) (by omega), Option.bind_some, if_pos rfl, size (by omega) (by omega), Option.bind_some]
    rw [show (((fr l[i], (0 : Int)).1.length : Int) != (((hd l[i].length).length + l[i].length + 4 : Nat) : Int)) = false from by rw [bne_eq_false_iff_eq]; show ((fr l[i]).length : Int) = _; omega]
    rw [manometerlaw02_laid.j1, if_neg Bool.false_ne_true, if_pos hlen2, hw1, frs_take l i hil]
    exact ih k (i + 1) (by omega) (by omega) (by omega)
theorem laid {l : List (List Int)} (hb : ∀ p ∈ l, By p) (hn : l.length ≤ 100) (hF : l.flatten.length ≤ 4000) {k : Nat} (hk : 300 ≤ k) : manometerlaw02_laid.f k l = some (frs l, true) :=
  laid_loop l hb (mem_len hF) hn hF l.length k 0 (by omega) (by omega) (by omega)

/-- How many frames are whole below a place, and how many bytes they have. -/
def wh : List (List Int) → Nat → Nat × Nat
  | [], _ => (0, 0)
  | p :: l, c => if (fr p).length ≤ c then ((wh l (c - (fr p).length)).1 + 1, (wh l (c - (fr p).length)).2 + (fr p).length) else (0, 0)
theorem wh_le (l : List (List Int)) : ∀ c, (wh l c).1 ≤ l.length ∧ (wh l c).2 ≤ c := by
  induction l with
  | nil => intro c; simp [wh]
  | cons p l ih =>
    intro c
    rw [wh]
    split
    · have := ih (c - (fr p).length); simp only [List.length_cons]; omega
    · simp
theorem wh_all (l : List (List Int)) : wh l (frs l).length = (l.length, (frs l).length) := by
  induction l with
  | nil => rfl
  | cons p l ih =>
    rw [wh, frs_cons, List.length_append, if_pos (by omega), show (fr p).length + (frs l).length - (fr p).length = (frs l).length by omega, ih]
    simp only [List.length_cons, Prod.mk.injEq, true_and]
    omega
theorem getN_torn {p : List Int} (hp : p.length ≤ 4000) {c : Nat} (hc : c < (fr p).length) : getN ((fr p).take c) = ([], 0, 6) := by
  have hl := fr_len p
  by_cases h : c < (hd p.length).length
  · have e : (fr p).take c = (hd p.length).take c := by
      unfold fr
      rw [List.append_assoc, List.take_append_of_le_length (by omega)]
    unfold getN
    rw [e, uvo_torn h]
    rfl
  · have e : (fr p).take c = hd p.length ++ (p ++ lo4 (mk (mo 0 (hd p.length ++ p)))).take (c - (hd p.length).length) := by
      unfold fr
      rw [List.append_assoc, List.take_append, List.take_of_length_le (by omega)]
    have hlen : ((fr p).take c).length = c := by rw [List.length_take]; omega
    unfold getN
    rw [show uvo ((fr p).take c) = (p.length, (hd p.length).length, 0) by rw [e]; exact uvo_hd (by omega) _, if_pos rfl]
    unfold getA
    rw [if_neg (by simp only; omega), if_pos (by rw [hlen]; simp only; omega)]
theorem all_torn (l : List (List Int)) : ∀ (f c at_ : Nat), (∀ p ∈ l, p.length ≤ 4000) → c ≤ (frs l).length → c ≤ f → 0 < f ∨ c = 0 →
    allN f ((frs l).take c) at_ = (l.take (wh l c).1, at_ + (wh l c).2, if (wh l c).2 = c then 0 else 6) := by
  induction l with
  | nil =>
    intro f c at_ _ hc hf _
    have hc0 : c = 0 := by simpa [frs] using hc
    subst hc0
    cases f with
    | zero => rfl
    | succ f => simp [frs, allN, wh]
  | cons p l ih =>
    intro f c at_ h4 hc hf hz
    have hp := h4 p (by simp)
    have hl := fr_len p
    have hh := hd_len p.length
    rw [frs_cons, List.length_append] at hc
    by_cases hc0 : c = 0
    · subst hc0
      rw [wh, if_neg (by omega)]
      cases f with
      | zero => rfl
      | succ f => simp [allN]
    · obtain ⟨f, rfl⟩ : ∃ m, f = m + 1 := ⟨f - 1, by omega⟩
      rw [wh, frs_cons]
      by_cases hw : (fr p).length ≤ c
      · have e : (fr p ++ frs l).take c = fr p ++ (frs l).take (c - (fr p).length) := by rw [List.take_append, List.take_of_length_le hw]
        rw [if_pos hw, e, allN, if_neg (by rw [List.length_append]; omega), getN_fr (by omega), if_pos rfl]
        simp only [List.drop_left]
        have hi := ih f (c - (fr p).length) (at_ + (fr p).length) (fun q hq => h4 q (List.mem_cons_of_mem _ hq)) (by omega) (by omega) (by omega)
        rw [hi]
        have hle := (wh_le l (c - (fr p).length)).2
        simp only [List.take_succ_cons, Prod.mk.injEq, true_and]
        refine ⟨by omega, ?_⟩
        by_cases hs : (wh l (c - (fr p).length)).2 = c - (fr p).length
        · rw [if_pos hs, if_pos (by omega)]
        · rw [if_neg hs, if_neg (by omega)]
      · have e : (fr p ++ frs l).take c = (fr p).take c := List.take_append_of_le_length (by omega)
        rw [if_neg hw, e, allN, if_neg (by rw [List.length_take]; omega), getN_torn hp (by omega), if_neg (by decide)]
        simp only [List.take_zero, Nat.add_zero]
        rw [if_neg (fun h => hc0 h.symm)]
theorem all_frs {l : List (List Int)} (h4 : ∀ p ∈ l, p.length ≤ 4000) : allN (frs l).length (frs l) 0 = (l, (frs l).length, 0) := by
  have := all_torn l (frs l).length (frs l).length 0 h4 (Nat.le_refl _) (Nat.le_refl _) (by omega)
  rw [List.take_length, wh_all, List.take_length, if_pos rfl, Nat.zero_add] at this
  exact this
end Go.Proofs.YtmppjcendcbamaaDoor.FF
