/- Plain laws of points, on: what is asked of a list, and of a merge. -/
import Derived.Test.YtfjhommpgbppjaaQ0
import Derived.Test.YtfjhommpgbppjaaE2
import Derived.Test.YtfjhommpgbppjaaV19
import Derived.Test.YtfjhommpgbppjaaV21
import Derived.Test.YtfjhommpgbppjaaV22
import Derived.Test.YtfjhommpgbppjaaPP5
import Derived.Test.YtfjhommpgbppjaaRT
namespace Go.Proofs.Ytfjhommpgbppjaa.PP
open Go.RowKit Go.Proofs.Ytfjhommpgbppjaa.Q Go.Proofs.YtfjhommpgbppjaaW.PrintWords Go.Proofs.YtfjhommpgbppjaaW.PrintLast Go.Proofs.YtfjhommpgbppjaaW.PrintMore
set_option linter.unusedVariables false

theorem ref_upto_loop (l : List S25) (s : Int) (hn : l.length ≤ 5000000) (d : Nat) : ∀ (k i : Nat) (x : List S25), i ≤ l.length → l.length - i = d → d < k → x.length ≤ i →
    manometerref09_Upto.l0 k s x l (l.length : Int) (i : Int) = some (x ++ (l.drop i).filter (uptoP s)) := by
  induction d with
  | zero =>
    intro k i x hi hd hk hx
    obtain ⟨k, rfl⟩ : ∃ m, k = m + 1 := ⟨k - 1, by omega⟩
    simp only [manometerref09_Upto.l0]; rw [if_neg (by omega), List.drop_of_length_le (by omega)]; simp
  | succ d ih =>
    intro k i x hi hd hk hx
    obtain ⟨k, rfl⟩ : ∃ m, k = m + 1 := ⟨k - 1, by omega⟩
    have hw : wrap64 ((i : Int) + 1) = ((i + 1 : Nat) : Int) := by rw [wrap_in (by omega) (by omega)]; omega
    have h1 : (i : Int) < (l.length : Int) := by omega
    have h0 : (0 : Int) ≤ (i : Int) := by omega
    have h2 : x.length < 5864062014805 := by omega
    simp only [manometerref09_Upto.l0, h1, h0, h2, if_true, hw, rd_nat]
    rw [drop_filter l _ i (by omega)]
    by_cases hp : (l.getD i z25).f2 ≤ s
    · rw [if_pos hp, if_pos (by simpa [uptoP] using hp), ih k (i + 1) _ (by omega) (by omega) (by omega) (by simp; omega), List.append_assoc]; rfl
    · rw [if_neg hp, if_neg (by simpa [uptoP] using hp), ih k (i + 1) _ (by omega) (by omega) (by omega) (by omega)]
theorem ref_upto {l : List S25} (hn : l.length ≤ 5000000) (s : Int) (k : Nat) (hk : l.length < k) : manometerref09_Upto.f k l s = some (l.filter (uptoP s)) := by
  exact ref_upto_loop l s hn l.length k 0 [] (by omega) (by omega) hk (by simp)
theorem ref_range_loop (l : List S25) (lo hi : Int) (hn : l.length ≤ 5000000) (d : Nat) : ∀ (k i : Nat) (x : List S25), i ≤ l.length → l.length - i = d → 2 * d < k → x.length ≤ i →
    manometerref09_Range.l0 k lo hi x l (l.length : Int) (i : Int) = some (x ++ (l.drop i).filter (rangeP lo hi)) := by
  induction d with
  | zero =>
    intro k i x hi hd hk hx
    obtain ⟨k, rfl⟩ : ∃ m, k = m + 1 := ⟨k - 1, by omega⟩
    simp only [manometerref09_Range.l0]; rw [if_neg (by omega), List.drop_of_length_le (by omega)]; simp
  | succ d ih =>
    intro k i x hi2 hd hk hx
    obtain ⟨k, rfl⟩ : ∃ m, k = m + 2 := ⟨k - 2, by omega⟩
    have hw : wrap64 ((i : Int) + 1) = ((i + 1 : Nat) : Int) := by rw [wrap_in (by omega) (by omega)]; omega
    have h1 : (i : Int) < (l.length : Int) := by omega
    have h0 : (0 : Int) ≤ (i : Int) := by omega
    have h2 : x.length < 5864062014805 := by omega
    simp only [manometerref09_Range.l0, manometerref09_Range.j1, h1, h0, h2, if_true, hw]
    rw [drop_filter l _ i (by omega)]
    by_cases hp : (rd_T25 l (i : Int)).f0 ≥ lo
    · by_cases hq : (rd_T25 l (i : Int)).f0 ≤ hi
      · have hP : rangeP lo hi (l.getD i z25) = true := by simp only [rangeP, Bool.and_eq_true, decide_eq_true_eq]; exact ⟨hp, hq⟩
        rw [if_pos hp, if_pos (decide_eq_true hq), if_pos hP, ih k (i + 1) _ (by omega) (by omega) (by omega) (by simp; omega), List.append_assoc]; rfl
      · have hP : ¬ rangeP lo hi (l.getD i z25) = true := by simp only [rangeP, Bool.and_eq_true, decide_eq_true_eq]; exact fun h => hq h.2
        rw [if_pos hp, if_neg (by simpa using hq), if_neg hP, ih k (i + 1) _ (by omega) (by omega) (by omega) (by omega)]
    · have hP : ¬ rangeP lo hi (l.getD i z25) = true := by simp only [rangeP, Bool.and_eq_true, decide_eq_true_eq]; exact fun h => hp h.1
      rw [if_neg hp, if_neg Bool.false_ne_true, if_neg hP, ih k (i + 1) _ (by omega) (by omega) (by omega) (by omega)]
theorem ref_range {l : List S25} (hn : l.length ≤ 5000000) (lo hi : Int) (k : Nat) (hk : 2 * l.length < k) : manometerref09_Range.f k l lo hi = some (l.filter (rangeP lo hi)) := by
  exact ref_range_loop l lo hi hn l.length k 0 [] (by omega) (by omega) hk (by simp)
theorem ref_window_loop (l : List S25) (lo hi : Int) (hn : l.length ≤ 5000000) (d : Nat) : ∀ (k i : Nat) (x : List S25), i ≤ l.length → l.length - i = d → 2 * d < k → x.length ≤ i →
    manometerref09_Window.l0 k lo hi x l (l.length : Int) (i : Int) = some (x ++ (l.drop i).filter (windowP lo hi)) := by
  induction d with
  | zero =>
    intro k i x hi hd hk hx
    obtain ⟨k, rfl⟩ : ∃ m, k = m + 1 := ⟨k - 1, by omega⟩
    simp only [manometerref09_Window.l0]; rw [if_neg (by omega), List.drop_of_length_le (by omega)]; simp
  | succ d ih =>
    intro k i x hi2 hd hk hx
    obtain ⟨k, rfl⟩ : ∃ m, k = m + 2 := ⟨k - 2, by omega⟩
    have hw : wrap64 ((i : Int) + 1) = ((i + 1 : Nat) : Int) := by rw [wrap_in (by omega) (by omega)]; omega
    have h1 : (i : Int) < (l.length : Int) := by omega
    have h0 : (0 : Int) ≤ (i : Int) := by omega
    have h2 : x.length < 5864062014805 := by omega
    simp only [manometerref09_Window.l0, manometerref09_Window.j1, h1, h0, h2, if_true, hw]
    rw [drop_filter l _ i (by omega)]
    generalize hW : IntKind.u64.wrap (IntKind.u64.wrap lo - IntKind.u64.wrap (rd_T25 l (i : Int)).f0) = W
    have hW2 : IntKind.u64.wrap (IntKind.u64.wrap lo - IntKind.u64.wrap (l.getD i z25).f0) = W := hW
    by_cases hp : (rd_T25 l (i : Int)).f0 ≤ lo
    · by_cases hq : W < hi
      · have hP : windowP lo hi (l.getD i z25) = true := by simp only [windowP, Bool.and_eq_true, decide_eq_true_eq, hW2]; exact ⟨hp, hq⟩
        rw [if_pos hp, if_pos (decide_eq_true hq), if_pos hP, ih k (i + 1) _ (by omega) (by omega) (by omega) (by simp; omega), List.append_assoc]; rfl
      · have hP : ¬ windowP lo hi (l.getD i z25) = true := by simp only [windowP, Bool.and_eq_true, decide_eq_true_eq, hW2]; exact fun h => hq h.2
        rw [if_pos hp, if_neg (by simpa using hq), if_neg hP, ih k (i + 1) _ (by omega) (by omega) (by omega) (by omega)]
    · have hP : ¬ windowP lo hi (l.getD i z25) = true := by simp only [windowP, Bool.and_eq_true, decide_eq_true_eq, hW2]; exact fun h => hp h.1
      rw [if_neg hp, if_neg Bool.false_ne_true, if_neg hP, ih k (i + 1) _ (by omega) (by omega) (by omega) (by omega)]
theorem ref_window {l : List S25} (hn : l.length ≤ 5000000) (lo hi : Int) (k : Nat) (hk : 2 * l.length < k) : manometerref09_Window.f k l lo hi = some (l.filter (windowP lo hi)) := by
  exact ref_window_loop l lo hi hn l.length k 0 [] (by omega) (by omega) hk (by simp)
end Go.Proofs.Ytfjhommpgbppjaa.PP
