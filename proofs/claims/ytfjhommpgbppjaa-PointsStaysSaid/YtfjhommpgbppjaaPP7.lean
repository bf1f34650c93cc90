/- Plain laws of points, on: PointsStays. -/
import Derived.Test.YtfjhommpgbppjaaQ0
import Derived.Test.YtfjhommpgbppjaaE
import Derived.Test.YtfjhommpgbppjaaV1
import Derived.Test.YtfjhommpgbppjaaV17
import Derived.Test.YtfjhommpgbppjaaPP6
namespace Go.Proofs.Ytfjhommpgbppjaa.PP
open Go.RowKit Go.Proofs.Ytfjhommpgbppjaa.Q Go.Proofs.YtfjhommpgbppjaaW.PrintWords Go.Proofs.YtfjhommpgbppjaaW.PrintLast Go.Proofs.YtfjhommpgbppjaaW.PrintMore
set_option linter.unusedVariables false

/-- A member of a right list is found. -/
theorem find_mem {m : List S25} (hl : m.length ≤ 60000) (hr : Rt m) {q : S25} (hq : q ∈ m) : ∃ n : Nat, points_Find.f m q.f0 = some ((n : Int), true) ∧ n < m.length ∧ m.getD n z25 = q := by
  obtain ⟨n, b, h1, h2, h3⟩ := find m q.f0 (by omega) hr
  have hs := ((rt_iff m).1 hr).2.1
  have hk := look_first hs h2
  rw [look_mem hs hq] at hk
  split at hk
  · rename_i h
    obtain rfl := h3.2 h
    exact ⟨n, h1, h.1, (Option.some.inj hk).symm⟩
  · cases hk

/-- What is asked of a point at the time that was put. -/
def okq (n : Int) (p q : S25) : Prop := ah p q = false ∧ (q = p ∨ (n ≠ 1 ∧ n ≠ 3)) ∧ (n = 2 → q.f1 = p.f1) ∧ (n = 4 → q.f1 ≠ p.f1)

theorem stays_j1 (k : Nat) (l m x50 : List S25) (n x8 x9 x51 x52 : Int) (p : S25) : manometerlaw09_PointsStays.j1 (k + 1) l m n x8 x9 x50 x51 x52 false p.f0 p.f1 p.f2 = manometerlaw09_PointsStays.l0 k l m n x8 x9 x50 x51 (wrap64 (x52 + 1)) p.f0 p.f1 p.f2 := by
  rw [manometerlaw09_PointsStays.j1, if_neg Bool.false_ne_true]
theorem stays_step (k i : Nat) (l m : List S25) (n x8 x9 : Int) (p : S25) (hi : i < m.length) (hm : m.length ≤ 60000) :
    ((m.getD i z25).f0 = p.f0 → okq n p (m.getD i z25) → manometerlaw09_PointsStays.l0 (k + 2) l m n x8 x9 m (m.length : Int) (i : Int) p.f0 p.f1 p.f2 = manometerlaw09_PointsStays.l0 k l m n (wrap64 (x8 + 1)) x9 m (m.length : Int) ((i + 1 : Nat) : Int) p.f0 p.f1 p.f2) ∧
    ((m.getD i z25).f0 ≠ p.f0 → manometerlaw09_PointsStays.l0 (k + 2) l m n x8 x9 m (m.length : Int) (i : Int) p.f0 p.f1 p.f2 = manometerlaw09_PointsStays.l0 (k + 1) l m n x8 (wrap64 (x9 + 1)) m (m.length : Int) ((i + 1 : Nat) : Int) p.f0 p.f1 p.f2) := by
  have hw : wrap64 ((i : Int) + 1) = ((i + 1 : Nat) : Int) := by rw [wrap_in (by omega) (by omega)]; omega
  rw [manometerlaw09_PointsStays.l0, if_pos (by omega), if_pos (by omega), if_pos (by omega), rd_nat]
  generalize m.getD i z25 = q
  have hj : manometerlaw09_PointsStays.j1 (k + 1) l m n (wrap64 (x8 + 1)) x9 m (m.length : Int) (i : Int) false p.f0 p.f1 p.f2 = manometerlaw09_PointsStays.l0 k l m n (wrap64 (x8 + 1)) x9 m (m.length : Int) ((i + 1 : Nat) : Int) p.f0 p.f1 p.f2 := by rw [stays_j1, hw]
  constructor
  · intro e ⟨o1, o2, o3, o4⟩
    rw [if_pos e, ahead, o1, Option.bind_some, if_neg Bool.false_ne_true]
    by_cases e1 : q.f1 = p.f1
    · have n4 : ¬ n = 4 := fun h => o4 h e1
      rw [if_pos e1]
      by_cases e2 : q.f2 = p.f2
      · rw [if_pos e2]
        by_cases n2 : n = 2
        · rw [if_pos n2]; exact hj
        · rw [if_neg n2, if_neg n4]; exact hj
      · have hne : q ≠ p := fun h => e2 (by rw [h])
        have n13 := o2.resolve_left hne
        rw [if_neg e2, if_neg n13.1, if_neg n13.2]
        by_cases n2 : n = 2
        · rw [if_pos n2]; exact hj
        · rw [if_neg n2, if_neg n4]; exact hj
    · have hne : q ≠ p := fun h => e1 (by rw [h])
      have n13 := o2.resolve_left hne
      have n2 : ¬ n = 2 := fun h => e1 (o3 h)
      have eb : (q.f1 == p.f1) = false := beq_eq_false_iff_ne.2 e1
      rw [if_neg e1, if_neg n13.1, if_neg n13.2, if_neg n2, eb]
      by_cases n4 : n = 4
      · rw [if_pos n4]; exact hj
      · rw [if_neg n4]; exact hj
  · intro e
    rw [if_neg e, hw]

theorem add_swap (a x : Nat) : a + 1 + x = a + (x + 1) := by omega
theorem stays_l0 (l m : List S25) (n : Int) (p : S25) (hm : m.length ≤ 60000) (K : Nat) (r : Option Bool) (d : Nat) : ∀ (k i a b : Nat), i ≤ m.length → m.length - i = d → K + 2 * d + 1 ≤ k → a ≤ i → b ≤ i →
    (∀ q ∈ m, q.f0 = p.f0 → okq n p q) →
    (∀ k', K ≤ k' → manometerlaw09_PointsStays.l1 k' l m n ((a + (m.drop i).countP (fun q => decide (q.f0 = p.f0)) : Nat) : Int) ((b + (m.drop i).countP (fun q => !decide (q.f0 = p.f0)) : Nat) : Int) l (l.length : Int) 0 p.f0 p.f1 p.f2 = r) →
    manometerlaw09_PointsStays.l0 k l m n (a : Int) (b : Int) m (m.length : Int) (i : Int) p.f0 p.f1 p.f2 = r := by
  induction d with
  | zero =>
    intro k i a b hi hd hk ha hb hq h
    obtain ⟨k, rfl⟩ : ∃ m, k = m + 1 := ⟨k - 1, by omega⟩
    rw [manometerlaw09_PointsStays.l0, if_neg (by omega)]
    have := h k (by omega)
    rw [List.drop_of_length_le (by omega)] at this
    exact this
  | succ d ih =>
    intro k i a b hi hd hk ha hb hq h
    obtain ⟨k, rfl⟩ : ∃ m, k = m + 2 := ⟨k - 2, by omega⟩
    have hlt : i < m.length := by omega
    have q2 : m.length - (i + 1) = d := by omega
    have q3 : K + 2 * d + 1 ≤ k := by omega
    have q4 : K + 2 * d + 1 ≤ k + 1 := by omega
    have q5 : a + 1 ≤ i + 1 := by omega
    have q6 : b + 1 ≤ i + 1 := by omega
    have q7 : a ≤ i + 1 := by omega
    have q8 : b ≤ i + 1 := by omega
    have hwa : wrap64 ((a : Int) + 1) = ((a + 1 : Nat) : Int) := by rw [wrap_in (by omega) (by omega)]; omega
    have hwb : wrap64 ((b : Int) + 1) = ((b + 1 : Nat) : Int) := by rw [wrap_in (by omega) (by omega)]; omega
    have hmem : m.getD i z25 ∈ m := by rw [getD_lt hlt]; exact List.getElem_mem _
    have hst := stays_step k i l m n (a : Int) (b : Int) p hlt hm
    have hdr : m.drop i = m.getD i z25 :: m.drop (i + 1) := by rw [List.drop_eq_getElem_cons hlt, getD_lt hlt]
    rw [hdr] at h
    simp only [List.countP_cons] at h
    by_cases e : (m.getD i z25).f0 = p.f0
    · rw [hst.1 e (hq _ hmem e), hwa]
      clear hst
      refine ih k (i + 1) (a + 1) b hlt q2 q3 q5 q8 hq fun k' hk' => ?_
      have := h k' hk'
      simp only [e, decide_true, if_true, Bool.not_true, Bool.false_eq_true, if_false, Nat.add_zero] at this
      rw [add_swap]
      exact this
    · rw [hst.2 e, hwb]
      clear hst
      refine ih (k + 1) (i + 1) a (b + 1) hlt q2 q4 q7 q6 hq fun k' hk' => ?_
      have := h k' hk'
      simp only [e, decide_false, Bool.not_false, if_true, Bool.false_eq_true, if_false, Nat.add_zero] at this
      rw [add_swap]
      exact this

theorem stays_j3 (k : Nat) (l m x50 : List S25) (n x8 x9 x51 x52 : Int) (p : S25) : manometerlaw09_PointsStays.j3 (k + 1) l m n x8 x9 x50 x51 x52 false p.f0 p.f1 p.f2 = manometerlaw09_PointsStays.l1 k l m n x8 x9 x50 x51 (wrap64 (x52 + 1)) p.f0 p.f1 p.f2 := by
  rw [manometerlaw09_PointsStays.j3, if_neg Bool.false_ne_true]
theorem wrap_pred {c : Nat} (h0 : 0 < c) (h1 : c ≤ 60001) : wrap64 ((c : Int) - 1) = ((c - 1 : Nat) : Int) := by rw [wrap_in (by omega) (by omega)]; omega
theorem not_neg (j : Nat) : ¬ (j : Int) < 0 := by omega
theorem not_ge {j n : Nat} (h : j < n) : ¬ (j : Int) ≥ (n : Int) := by omega
/-- The second loop: every point of another time is found; as many as were counted. -/
theorem stays_l1 (l m : List S25) (n : Int) (p : S25) (hm : m.length ≤ 60000) (hl : l.length ≤ 60000) (hr : Rt m) (hin : ∀ q ∈ l, q.f0 ≠ p.f0 → q ∈ m) (hn : (n == 1) = ((m.length : Int) == ((l.length + 1 : Nat) : Int))) (d : Nat) :
    ∀ (k i c : Nat), i ≤ l.length → l.length - i = d → 2 * m.length + 2 * d + 10 ≤ k → c = (l.drop i).countP (fun q => !decide (q.f0 = p.f0)) →
    manometerlaw09_PointsStays.l1 k l m n 1 (c : Int) l (l.length : Int) (i : Int) p.f0 p.f1 p.f2 = some true := by
  induction d with
  | zero =>
    intro k i c hi hd hk hc
    obtain ⟨k, rfl⟩ : ∃ m, k = m + 1 := ⟨k - 1, by omega⟩
    rw [List.drop_of_length_le (by omega)] at hc
    obtain ⟨x, hx, hxi⟩ := right m (by omega) k (by omega)
    obtain rfl := hxi.2 hr
    have hw : wrap64 ((l.length : Int) + 1) = ((l.length + 1 : Nat) : Int) := by rw [wrap_in (by omega) (by omega)]; omega
    have hc0 : (c : Int) = 0 := by rw [hc]; rfl
    have h9 : ¬ (i : Int) < (l.length : Int) := by omega
    rw [manometerlaw09_PointsStays.l1, if_neg h9, hx, Option.bind_some, hw, hc0, hn]
    simp only [eq_self, if_true, beq_self_eq_true]
  | succ d ih =>
    intro k i c hi hd hk hc
    obtain ⟨k, rfl⟩ : ∃ m, k = m + 2 := ⟨k - 2, by omega⟩
    have hlt : i < l.length := by omega
    have q2 : l.length - (i + 1) = d := by omega
    have q3 : 2 * m.length + 2 * d + 10 ≤ k := by omega
    have q4 : 2 * m.length + 2 * d + 10 ≤ k + 1 := by omega
    have hmem : l.getD i z25 ∈ l := by rw [getD_lt hlt]; exact List.getElem_mem _
    have hdr : l.drop i = l.getD i z25 :: l.drop (i + 1) := by rw [List.drop_eq_getElem_cons hlt, getD_lt hlt]
    have hw : wrap64 ((i : Int) + 1) = ((i + 1 : Nat) : Int) := by rw [wrap_in (by omega) (by omega)]; omega
    have hcl := List.countP_le_length (p := fun q : S25 => !decide (q.f0 = p.f0)) (l := l.drop (i + 1))
    rw [List.length_drop] at hcl
    rw [hdr, List.countP_cons] at hc
    have g1 : (i : Int) < (l.length : Int) := Int.ofNat_lt.2 hlt
    have g0 : (0 : Int) ≤ (i : Int) := Int.natCast_nonneg i
    rw [manometerlaw09_PointsStays.l1, if_pos g1, if_pos g0, if_pos g1, rd_nat]
    clear hdr
    generalize l.getD i z25 = q at hmem hc ⊢
    by_cases e : q.f0 = p.f0
    · rw [if_pos e, hw]
      exact ih (k + 1) (i + 1) c hlt q2 q4 (by simpa [e] using hc)
    · obtain ⟨j, h1, h2, h3⟩ := find_mem hm hr (hin q hmem e)
      have hc' : c = (l.drop (i + 1)).countP (fun q => !decide (q.f0 = p.f0)) + 1 := by simpa [e] using hc
      have hw2 : wrap64 ((c : Int) - 1) = ((c - 1 : Nat) : Int) := wrap_pred (by rw [hc']; exact Nat.succ_pos _) (by rw [hc']; exact Nat.le_trans (Nat.succ_le_succ (Nat.le_trans hcl (Nat.sub_le _ _))) (Nat.succ_le_succ hl))
      have g2 : ¬ ((j : Int), true).1 < 0 := not_neg j
      have g3 : ¬ ((j : Int), true).1 ≥ (m.length : Int) := not_ge h2
      have g4 : 0 ≤ ((j : Int), true).1 := Int.natCast_nonneg j
      have g5 : ((j : Int), true).1 < (m.length : Int) := Int.ofNat_lt.2 h2
      have g6 : rd_T25 m ((j : Int), true).1 = q := h3
      have g7 : ((j : Int), true).2 = true := rfl
      rw [if_neg e, h1, Option.bind_some, if_pos g7, if_neg g2, if_neg g3, if_pos g4, if_pos g5, g6, if_pos (Eq.refl q.f0), if_pos (Eq.refl q.f1), if_pos (Eq.refl q.f2), stays_j3, hw, hw2]
      exact ih k (i + 1) (c - 1) hlt q2 q3 (by rw [hc']; rfl)
end Go.Proofs.Ytfjhommpgbppjaa.PP
