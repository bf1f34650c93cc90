/- Plain laws of points, on: finding and putting. -/
import Derived.Test.YtfjhommpgbppjaaQ0
import Derived.Test.YtfjhommpgbppjaaE
import Derived.Test.YtfjhommpgbppjaaPP
namespace Go.Proofs.Ytfjhommpgbppjaa.PP
open Go.RowKit Go.Proofs.Ytfjhommpgbppjaa.Q Go.Proofs.YtfjhommpgbppjaaW.PrintWords Go.Proofs.YtfjhommpgbppjaaW.PrintLast Go.Proofs.YtfjhommpgbppjaaW.PrintMore
set_option linter.unusedVariables false

/-- The times rise. -/
def Up (l : List S25) : Prop := ∀ i j, i < j → j < l.length → (l.getD i z25).f0 < (l.getD j z25).f0
theorem up_of_step (l : List S25) (h : ∀ i, 0 < i → i < l.length → (l.getD (i - 1) z25).f0 < (l.getD i z25).f0) : Up l := by
  intro i j hij hj
  obtain ⟨d, rfl⟩ : ∃ d, j = i + 1 + d := ⟨j - i - 1, by omega⟩
  induction d with
  | zero => exact h (i + 1) (by omega) hj
  | succ d ih => exact Int.lt_trans (ih (by omega) (by omega)) (h (i + 1 + (d + 1)) (by omega) hj)
theorem Rt.up {l : List S25} (h : Rt l) : Up l := up_of_step l fun i h0 h1 => (h.1 i h1).2 h0
/-- n is the first place from which on no point lies below t. -/
def First (l : List S25) (t : Int) (n : Nat) : Prop := n ≤ l.length ∧ (∀ i, i < n → (l.getD i z25).f0 < t) ∧ ∀ i, n ≤ i → i < l.length → t ≤ (l.getD i z25).f0
theorem First.eq {l : List S25} {t : Int} {n m : Nat} (h : First l t n) (h' : First l t m) : n = m := by
  obtain ⟨h1, h2, h3⟩ := h
  obtain ⟨k1, k2, k3⟩ := h'
  rcases Nat.lt_trichotomy n m with e | e | e
  · have a := h3 n (Nat.le_refl _) (by omega)
    have b := k2 n e
    omega
  · exact e
  · have a := k3 m (Nat.le_refl _) (by omega)
    have b := h2 m e
    omega

theorem bs_first (l : List S25) (t : Int) (hup : Up l) : ∀ (k lo hi : Nat), hi - lo ≤ k → lo ≤ hi → hi ≤ l.length → (∀ i, i < lo → (l.getD i z25).f0 < t) → (∀ i, hi ≤ i → i < l.length → t ≤ (l.getD i z25).f0) → First l t (bs l t k lo hi) := by
  intro k
  induction k with
  | zero =>
    intro lo hi h1 h2 h3 h4 h5
    have : lo = hi := by omega
    subst this
    exact ⟨h3, h4, h5⟩
  | succ k ih =>
    intro lo hi h1 h2 h3 h4 h5
    unfold bs
    by_cases hlt : lo < hi
    · rw [if_pos hlt]
      by_cases ht : t ≤ (l.getD (lo + (hi - lo) / 2) z25).f0
      · rw [if_pos ht]
        refine ih _ _ (by omega) (by omega) (by omega) h4 (fun i hi1 hi2 => ?_)
        by_cases e : i = lo + (hi - lo) / 2
        · rw [e]; exact ht
        · have := hup (lo + (hi - lo) / 2) i (by omega) hi2
          omega
      · rw [if_neg ht]
        refine ih _ _ (by omega) (by omega) h3 (fun i hi1 => ?_) h5
        by_cases e : i = lo + (hi - lo) / 2
        · rw [e]; omega
        · have := hup i (lo + (hi - lo) / 2) (by omega) (by omega)
          omega
    · rw [if_neg hlt]
      have : lo = hi := by omega
      subst this
      exact ⟨h3, h4, h5⟩
theorem bs_le (l : List S25) (t : Int) : ∀ (k lo hi : Nat), lo ≤ hi → hi ≤ l.length → bs l t k lo hi ≤ l.length := by
  intro k
  induction k with
  | zero => intro lo hi h1 h2; unfold bs; omega
  | succ k ih =>
    intro lo hi h1 h2
    unfold bs
    split
    · split
      · exact ih _ _ (by omega) (by omega)
      · exact ih _ _ (by omega) (by omega)
    · omega

/-- Find, of any list: some place. -/
theorem find_any (l : List S25) (t : Int) (hn : l.length < 5864062014805) : ∃ n : Nat, ∃ b, points_Find.f l t = some ((n : Int), b) ∧ n ≤ l.length ∧ (b = true ↔ n < l.length ∧ (l.getD n z25).f0 = t) :=
  ⟨_, _, by unfold points_Find.f; rw [if_pos hn], bs_le l t _ _ _ (Nat.zero_le _) (Nat.le_refl _), by simp⟩
theorem find (l : List S25) (t : Int) (hn : l.length < 5864062014805) (hr : Rt l) : ∃ n : Nat, ∃ b, points_Find.f l t = some ((n : Int), b) ∧ First l t n ∧ (b = true ↔ n < l.length ∧ (l.getD n z25).f0 = t) :=
  ⟨_, _, by unfold points_Find.f; rw [if_pos hn], bs_first l t hr.up _ _ _ (by omega) (Nat.zero_le _) (Nat.le_refl _) (fun i hi => by omega) (fun i h1 h2 => by omega), by simp⟩

end Go.Proofs.Ytfjhommpgbppjaa.PP
