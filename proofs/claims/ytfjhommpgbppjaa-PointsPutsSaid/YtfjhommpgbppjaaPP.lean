/- Plain laws of points: what the printed functions come to, without program and memory. -/
import Derived.Test.YtfjhommpgbppjaaQ0
import Derived.Test.YtfjhommpgbppjaaV1
import Derived.Test.YtfjhommpgbppjaaV2
import Derived.Test.YtfjhommpgbppjaaV4
import Derived.Test.YtfjhommpgbppjaaV5
import Derived.Test.YtfjhommpgbppjaaRT
namespace Go.Proofs.Ytfjhommpgbppjaa.PP
open Go.RowKit Go.Proofs.Ytfjhommpgbppjaa.Q Go.Proofs.YtfjhommpgbppjaaW.PrintWords Go.Proofs.YtfjhommpgbppjaaW.PrintLast Go.Proofs.YtfjhommpgbppjaaW.PrintMore
set_option linter.unusedVariables false

theorem wrap_in {x : Int} (h0 : -9223372036854775808 ≤ x) (h1 : x ≤ 9223372036854775807) : wrap64 x = x := by unfold wrap64; omega
theorem rd_nat (l : List S25) (i : Nat) : rd_T25 l (i : Int) = l.getD i z25 := rfl

/-- The chapter's example comes out true. -/
theorem live (k : Nat) (h : 20 ≤ k) : manometerlaw09_live.f k = some true := by
  have h0 : manometerlaw09_live.f 20 = some true := by decide +kernel
  exact at_rounds (g := fun k => manometerlaw09_live.f k) (fun k => manometerlaw09_live.mono k) h h0

theorem few_le {l : List S25} (h : (l.length : Int) ≤ 400) : manometerlaw09_few.f l = some true := by simp [manometerlaw09_few.f, h]
theorem few_gt {l : List S25} (h : ¬ (l.length : Int) ≤ 400) : manometerlaw09_few.f l = some false := by simp [manometerlaw09_few.f, h]

/-- Point i of a list is right: its number isn't 0, and it lies above the one ahead. -/
def good (l : List S25) (i : Nat) : Prop := (l.getD i z25).f2 ≠ 0 ∧ (0 < i → (l.getD (i - 1) z25).f0 < (l.getD i z25).f0)
/-- A right list. -/
def Rt (l : List S25) : Prop := (∀ i, i < l.length → good l i) ∧ l.length ≤ 65536

theorem right_loop (l : List S25) (hn : l.length ≤ 9223372036854775807) (d : Nat) : ∀ (k i : Nat), i ≤ l.length → l.length - i = d → 2 * d < k →
    ∃ b, points_Right.l0 k l l (l.length : Int) (i : Int) = some b ∧ (b = true ↔ (∀ j, i ≤ j → j < l.length → good l j) ∧ l.length ≤ 65536) := by
  induction d with
  | zero =>
    intro k i hi hd hk
    obtain ⟨k, rfl⟩ : ∃ m, k = m + 1 := ⟨k - 1, by omega⟩
    refine ⟨decide ((l.length : Int) ≤ 65536), by simp only [points_Right.l0]; rw [if_neg (by omega)], ?_⟩
    rw [decide_eq_true_iff]
    exact ⟨fun h => ⟨fun j h1 h2 => by omega, by omega⟩, fun h => by have := h.2; omega⟩
  | succ d ih =>
    intro k i hi hd hk
    obtain ⟨k, rfl⟩ : ∃ m, k = m + 2 := ⟨k - 2, by omega⟩
    have hlt : i < l.length := by omega
    obtain ⟨b, hb, hbi⟩ := ih k (i + 1) (by omega) (by omega) (by omega)
    have hw : wrap64 ((i : Int) + 1) = ((i + 1 : Nat) : Int) := by rw [wrap_in (by omega) (by omega)]; omega
    have go : ∀ c : Bool, (c = false ↔ good l i) → ∃ b, points_Right.j1 (k + 1) l l (l.length : Int) (i : Int) c = some b ∧ (b = true ↔ (∀ j, i ≤ j → j < l.length → good l j) ∧ l.length ≤ 65536) := by
      intro c hc
      cases c with
      | true =>
        refine ⟨false, by simp [points_Right.j1], ?_⟩
        have hng : ¬ good l i := fun hg => by have := hc.2 hg; cases this
        exact ⟨fun h => (by cases h), fun h => absurd (h.1 i (Nat.le_refl _) hlt) hng⟩
      | false =>
        refine ⟨b, by simp only [points_Right.j1]; rw [if_neg (by simp), hw]; exact hb, ?_⟩
        rw [hbi]
        have hg := hc.1 rfl
        constructor
        · intro h
          refine ⟨fun j h1 h2 => ?_, h.2⟩
          by_cases e : j = i
          · rw [e]; exact hg
          · exact h.1 j (by omega) h2
        · exact fun h => ⟨fun j h1 h2 => h.1 j (by omega) h2, h.2⟩
    simp only [points_Right.l0]
    rw [if_pos (by omega), if_pos (by omega), if_pos (by omega), rd_nat]
    by_cases h2 : (l.getD i z25).f2 = 0
    · rw [if_pos h2]
      exact go true ⟨fun h => (by cases h), fun h => absurd h2 h.1⟩
    · rw [if_neg h2]
      by_cases hi0 : (i : Int) > 0
      · have hw2 : wrap64 ((i : Int) - 1) = ((i - 1 : Nat) : Int) := by rw [wrap_in (by omega) (by omega)]; omega
        rw [if_pos hi0, hw2, if_pos (by omega), if_pos (by omega), rd_nat]
        refine go _ ?_
        rw [decide_eq_false_iff_not]
        exact ⟨fun h => ⟨h2, fun _ => by omega⟩, fun h => by have := h.2 (by omega); omega⟩
      · rw [if_neg hi0]
        exact go false ⟨fun _ => ⟨h2, fun h => by omega⟩, fun _ => rfl⟩

theorem right (l : List S25) (hn : l.length ≤ 9223372036854775807) (k : Nat) (hk : 2 * l.length < k) : ∃ b, points_Right.f k l = some b ∧ (b = true ↔ Rt l) := by
  obtain ⟨b, hb, h⟩ := right_loop l hn l.length k 0 (by omega) (by omega) hk
  exact ⟨b, hb, h.trans ⟨fun h => ⟨fun i hi => h.1 i (Nat.zero_le _) hi, h.2⟩, fun h => ⟨fun i _ hi => h.1 i hi, h.2⟩⟩⟩

/-- Does a point count ahead of another one. -/
def ah (p q : S25) : Bool := decide (p.f2 < q.f2) || (decide (p.f2 = q.f2) && decide (p.f1 < q.f1))
theorem ahead (p q : S25) : points_Ahead.f p.f0 p.f1 p.f2 q.f0 q.f1 q.f2 = some (ah p q) := by
  unfold points_Ahead.f ah
  by_cases h : p.f2 = q.f2
  · rw [if_pos h]; simp [h]
  · rw [if_neg h]; simp [h]
end Go.Proofs.Ytfjhommpgbppjaa.PP
