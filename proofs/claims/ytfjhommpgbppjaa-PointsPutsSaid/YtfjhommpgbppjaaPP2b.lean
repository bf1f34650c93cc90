/- Plain laws of points, on: finding and putting. -/
import Derived.Test.YtfjhommpgbppjaaQ0
import Derived.Test.YtfjhommpgbppjaaE
import Derived.Test.YtfjhommpgbppjaaV9
import Derived.Test.YtfjhommpgbppjaaPP2
import Derived.Test.YtfjhommpgbppjaaPP
import Derived.Test.YtfjhommpgbppjaaRT
namespace Go.Proofs.Ytfjhommpgbppjaa.PP
open Go.RowKit Go.Proofs.Ytfjhommpgbppjaa.Q Go.Proofs.YtfjhommpgbppjaaW.PrintWords Go.Proofs.YtfjhommpgbppjaaW.PrintLast Go.Proofs.YtfjhommpgbppjaaW.PrintMore
set_option linter.unusedVariables false

theorem ref_find_loop (l : List S25) (t : Int) (hn : l.length ≤ 9223372036854775807) (d : Nat) : ∀ (k i : Nat), i ≤ l.length → l.length - i = d → d < k → (∀ j, j < i → (l.getD j z25).f0 < t) →
    ∃ n : Nat, ∃ b, manometerref09_Find.l0 k l t l (l.length : Int) (i : Int) = some ((n : Int), b) ∧ n ≤ l.length ∧ (∀ j, j < n → (l.getD j z25).f0 < t) ∧ (n < l.length → t ≤ (l.getD n z25).f0) ∧ (b = true ↔ n < l.length ∧ (l.getD n z25).f0 = t) := by
  induction d with
  | zero =>
    intro k i hi hd hk hb
    obtain ⟨k, rfl⟩ : ∃ m, k = m + 1 := ⟨k - 1, by omega⟩
    refine ⟨l.length, false, by simp only [manometerref09_Find.l0]; rw [if_neg (by omega)], Nat.le_refl _, fun j hj => hb j (by omega), fun h => by omega, by simp⟩
  | succ d ih =>
    intro k i hi hd hk hb
    obtain ⟨k, rfl⟩ : ∃ m, k = m + 1 := ⟨k - 1, by omega⟩
    simp only [manometerref09_Find.l0]
    rw [if_pos (by omega), if_pos (by omega), if_pos (by omega), rd_nat]
    by_cases ht : (l.getD i z25).f0 ≥ t
    · rw [if_pos ht]
      refine ⟨i, _, rfl, hi, hb, fun _ => ht, ?_⟩
      have hil : i < l.length := by omega
      simp [hil]
    · rw [if_neg ht]
      have hw : wrap64 ((i : Int) + 1) = ((i + 1 : Nat) : Int) := by rw [wrap_in (by omega) (by omega)]; omega
      rw [hw]
      refine ih k (i + 1) (by omega) (by omega) (by omega) (fun j hj => ?_)
      by_cases e : j = i
      · rw [e]; omega
      · exact hb j (by omega)
theorem ref_find (l : List S25) (t : Int) (hn : l.length ≤ 9223372036854775807) (k : Nat) (hk : l.length < k) :
    ∃ n : Nat, ∃ b, manometerref09_Find.f k l t = some ((n : Int), b) ∧ n ≤ l.length ∧ (∀ j, j < n → (l.getD j z25).f0 < t) ∧ (n < l.length → t ≤ (l.getD n z25).f0) ∧ (b = true ↔ n < l.length ∧ (l.getD n z25).f0 = t) :=
  ref_find_loop l t hn l.length k 0 (by omega) (by omega) hk (fun j hj => by omega)
theorem first_of (l : List S25) (t : Int) (hup : Up l) (n : Nat) (h1 : n ≤ l.length) (h2 : ∀ j, j < n → (l.getD j z25).f0 < t) (h3 : n < l.length → t ≤ (l.getD n z25).f0) : First l t n := by
  refine ⟨h1, h2, fun i hi hl => ?_⟩
  by_cases e : i = n
  · rw [e]; exact h3 (by omega)
  · have := hup n i (by omega) hl
    have := h3 (by omega)
    omega
/-- Of a right list both find the same. -/
theorem finds_same (l : List S25) (t : Int) (hn : l.length < 5864062014805) (hr : Rt l) (k : Nat) (hk : l.length < k) :
    ∃ n : Nat, ∃ b, points_Find.f l t = some ((n : Int), b) ∧ manometerref09_Find.f k l t = some ((n : Int), b) ∧ First l t n ∧ (b = true ↔ n < l.length ∧ (l.getD n z25).f0 = t) := by
  obtain ⟨n, b, h1, h2, h3⟩ := find l t hn hr
  obtain ⟨m, c, k1, k2, k3, k4, k5⟩ := ref_find l t (by omega) k hk
  have hnm := h2.eq (first_of l t hr.up m k2 k3 k4)
  subst hnm
  have hbc : b = c := by
    cases b with
    | true => exact (k5.2 (h3.1 rfl)).symm
    | false => cases c with
      | false => rfl
      | true => exact h3.2 (k5.1 rfl)
  subst hbc
  exact ⟨n, b, h1, k1, h2, h3⟩
end Go.Proofs.Ytfjhommpgbppjaa.PP
