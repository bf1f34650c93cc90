/- Plain laws of points: what the printed functions come to, without program and memory. -/
import Derived.Test.YtfjhommpgbppjaaQ0
import Derived.Test.YtfjhommpgbppjaaV1
import Derived.Test.YtfjhommpgbppjaaV6
import Derived.Test.YtfjhommpgbppjaaV7
import Derived.Test.YtfjhommpgbppjaaPP
import Derived.Test.YtfjhommpgbppjaaRT
namespace Go.Proofs.Ytfjhommpgbppjaa.PP
open Go.RowKit Go.Proofs.Ytfjhommpgbppjaa.Q Go.Proofs.YtfjhommpgbppjaaW.PrintWords Go.Proofs.YtfjhommpgbppjaaW.PrintLast Go.Proofs.YtfjhommpgbppjaaW.PrintMore
set_option linter.unusedVariables false

theorem ref_right_loop (l : List S25) (hn : l.length ≤ 9223372036854775807) (k : Nat) : ∀ (i : Nat), i ≤ l.length →
    (manometerref09_Right.l0 k l l (l.length : Int) (i : Int) = points_Right.l0 k l l (l.length : Int) (i : Int)) ∧ ∀ c, manometerref09_Right.j1 k l l (l.length : Int) (i : Int) c = points_Right.j1 k l l (l.length : Int) (i : Int) c ∨ l.length ≤ i := by
  induction k with
  | zero => intro i hi; exact ⟨rfl, fun c => .inl rfl⟩
  | succ k ih =>
    intro i hi
    refine ⟨?_, ?_⟩
    · simp only [points_Right.l0, manometerref09_Right.l0]
      by_cases hlt : (i : Int) < l.length
      · have h0 : (0 : Int) ≤ i := by omega
        simp only [if_pos hlt, if_pos h0]
        have hj : ∀ c, manometerref09_Right.j1 k l l (l.length : Int) (i : Int) c = points_Right.j1 k l l (l.length : Int) (i : Int) c := fun c => by
          rcases (ih i hi).2 c with h | h
          · exact h
          · omega
        simp only [hj, ge_iff_le]
      · rw [if_neg hlt, if_neg hlt]
    · intro c
      by_cases hlt : i < l.length
      · left
        simp only [points_Right.j1, manometerref09_Right.j1]
        have hw : wrap64 ((i : Int) + 1) = ((i + 1 : Nat) : Int) := by rw [wrap_in (by omega) (by omega)]; omega
        rw [hw, (ih (i + 1) (by omega)).1]
      · right; omega
theorem ref_right (l : List S25) (hn : l.length ≤ 9223372036854775807) (k : Nat) : manometerref09_Right.f k l = points_Right.f k l := by
  have := (ref_right_loop l hn k 0 (by omega)).1
  exact this

theorem ref_ahead (p q : S25) : manometerref09_Ahead.f p.f0 p.f1 p.f2 q.f0 q.f1 q.f2 = some (ah p q) := by
  unfold manometerref09_Ahead.f ah
  by_cases h : p.f2 < q.f2
  · rw [if_pos h]; simp [h]
  · rw [if_neg h]
    by_cases h2 : p.f2 = q.f2
    · rw [if_pos h2]; simp [h2]
    · rw [if_neg h2]; simp [h, h2]
end Go.Proofs.Ytfjhommpgbppjaa.PP
