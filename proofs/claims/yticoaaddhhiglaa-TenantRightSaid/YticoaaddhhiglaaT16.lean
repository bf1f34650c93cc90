import Derived.Test.YticoaaddhhiglaaT13
import Derived.Test.YticoaaddhhiglaaQ12
/- The document's Right is the program's: plain Lean. -/
namespace Go.Proofs.Yticoaaddhhiglaa.T
open Go.RowKit Go.Proofs.Yticoaaddhhiglaa.Q Go.Proofs.YticoaaddhhiglaaW.PrintWords Go.Proofs.YticoaaddhhiglaaW.PrintLast Go.Proofs.YticoaaddhhiglaaW.PrintMore
open Go.Proofs.Yticoaaddhhiglaa.E (letterE.f nameGo named)
set_option linter.unusedVariables false
set_option linter.unusedSimpArgs false
def letB (c : Int) : Bool := decide ((97 ≤ c ∧ c ≤ 122) ∨ (65 ≤ c ∧ c ≤ 90) ∨ (48 ≤ c ∧ c ≤ 57) ∨ c = 95)
def digB (c : Int) : Bool := decide (48 ≤ c ∧ c ≤ 57)
theorem bool_eq {a b : Bool} (h : a = true ↔ b = true) : a = b := by cases a <;> cases b <;> simp_all
theorem Letter_f (c : Int) : manometerref05_Letter.f c = some (letB c) := by
  unfold manometerref05_Letter.f
  repeat' split
  all_goals
    congr 1
    apply bool_eq
    simp only [letB, decide_eq_true_eq, beq_iff_eq, true_iff, false_iff, Bool.true_eq_false, Bool.false_eq_true]
    omega
theorem letterE_f (c : Int) : letterE.f c = some (letB c, letB c && !digB c) := by
  unfold letterE.f
  repeat' split
  all_goals
    congr 1
    apply Prod.ext
    · apply bool_eq
      simp only [letB, decide_eq_true_eq, beq_iff_eq, true_iff, false_iff, Bool.true_eq_false, Bool.false_eq_true]
      omega
    · apply bool_eq
      simp only [letB, digB, Bool.and_eq_true, Bool.not_eq_true', decide_eq_true_eq, decide_eq_false_iff_not, beq_iff_eq, true_iff, false_iff, Bool.true_eq_false, Bool.false_eq_true]
      omega
theorem go_spec (s : ByteArray) : ∀ (k pos : Nat), s.size < k + pos → (nameGo s k pos = true ↔ (∀ i : Nat, pos ≤ i → i < s.size → letB (bt s i) = true) ∧ (pos = 0 → 0 < s.size → digB (bt s 0) = false))
  | 0, pos, h => by
    unfold nameGo
    simp only [true_iff]
    exact ⟨fun i h1 h2 => by omega, fun h1 h2 => by omega⟩
  | k + 1, pos, h => by
    rw [nameGo]
    by_cases hp : pos < s.size
    · rw [if_pos hp]
      by_cases ha : (s[pos]'hp).toNat < 128
      · have hb : ((s[pos]'hp).toNat : Int) = bt s pos := by
          have := bt_at s pos (by simpa using hp)
          simpa using this
        rw [decode_ascii s pos hp ha]
        dsimp only
        rw [show (((s[pos]'hp).toNat : Nat) : Int) = bt s pos from hb, letterE_f]
        dsimp only
        by_cases h1 : letB (bt s pos) = true
        · by_cases h2 : pos = 0 ∧ (letB (bt s pos) && !digB (bt s pos)) = false
          · rw [if_neg (fun h => h.2 h2)]
            simp only [Bool.false_eq_true, false_iff]
            rintro ⟨_, h4⟩
            obtain ⟨rfl, h5⟩ := h2
            rw [h1, Bool.true_and] at h5
            have := h4 rfl hp
            rw [show ((0 : Nat) : Int) = (0 : Int) from rfl, this] at h5
            exact absurd h5 (by decide)
          · rw [if_pos ⟨h1, h2⟩, go_spec s k (pos + 1) (by omega)]
            constructor
            · rintro ⟨h3, _⟩
              refine ⟨fun i hi hl => ?_, fun e hl => ?_⟩
              · rcases Nat.eq_or_lt_of_le hi with e | e
                · rw [← e]; exact h1
                · exact h3 i (by omega) hl
              · subst e
                cases hd : digB (bt s 0)
                · rfl
                · exact absurd ⟨rfl, by rw [show ((0 : Nat) : Int) = (0 : Int) from rfl, hd]; simp⟩ h2
            · rintro ⟨h3, h4⟩
              exact ⟨fun i hi hl => h3 i (by omega) hl, fun e _ => by omega⟩
        · rw [if_neg (fun h => h1 h.1)]
          simp only [Bool.false_eq_true, false_iff]
          rintro ⟨h3, _⟩
          exact h1 (h3 pos (Nat.le_refl _) hp)
      · have hh := decode_high s pos hp (by omega)
        have hl : letB ((Utf8.decode s pos).1 : Int) = false := by
          apply decide_eq_false
          have := hh.1
          omega
        rw [letterE_f]
        dsimp only
        rw [hl, if_neg (by simp)]
        simp only [Bool.false_eq_true, false_iff]
        rintro ⟨h3, _⟩
        have h5 := h3 pos (Nat.le_refl _) hp
        have hb : ((s[pos]'hp).toNat : Int) = bt s pos := by
          have := bt_at s pos (by simpa using hp)
          simpa using this
        rw [← hb] at h5
        have := of_decide_eq_true h5
        omega
    · rw [if_neg hp]
      simp only [true_iff]
      exact ⟨fun i h1 h2 => by omega, fun h1 h2 => by omega⟩
theorem named_l0 (s : ByteArray) (hs : s.size ≤ 1000) : ∀ (d i k : Nat), i + d = s.size → d < k → ∃ r, manometerref05_Named.l0 k s (s.size : Int) (i : Int) = some r ∧ (r = true ↔ (∀ j : Nat, i ≤ j → j < s.size → letB (bt s j) = true) ∧ 1 ≤ s.size ∧ s.size ≤ 64 ∧ digB (bt s 0) = false)
  | 0, i, k + 1, h, _ => by
    rw [manometerref05_Named.l0, if_neg (by omega)]
    by_cases h1 : (s.size : Int) ≥ 1
    · by_cases h2 : (s.size : Int) ≤ 64
      · rw [if_pos h1, if_pos h2, if_pos (by omega)]
        by_cases h3 : bt s 0 < 48
        · rw [if_pos h3]
          exact ⟨_, rfl, by simp only [true_iff]; exact ⟨fun j hj hl => by omega, by omega, by omega, by apply decide_eq_false; omega⟩⟩
        · rw [if_neg h3]
          refine ⟨_, rfl, ?_⟩
          simp only [decide_eq_true_eq, digB, decide_eq_false_iff_not]
          exact ⟨fun h => ⟨fun j hj hl => by omega, by omega, by omega, by omega⟩, fun h => by omega⟩
      · rw [if_pos h1, if_neg h2]
        exact ⟨_, rfl, by simp only [Bool.false_eq_true, false_iff]; rintro ⟨_, _, h, _⟩; omega⟩
    · rw [if_neg h1]
      exact ⟨_, rfl, by simp only [Bool.false_eq_true, false_iff]; rintro ⟨_, h, _, _⟩; omega⟩
  | d + 1, i, k + 1, h, hk => by
    rw [manometerref05_Named.l0, if_pos (by omega), if_pos (by omega), if_pos (by omega), Letter_f, Option.bind_some]
    by_cases h1 : letB (bt s (i : Int)) = true
    · rw [if_pos h1, show wrap64 ((i : Int) + 1) = ((i + 1 : Nat) : Int) by unfold wrap64; omega]
      obtain ⟨r, e1, e2⟩ := named_l0 s hs d (i + 1) k (by omega) (by omega)
      refine ⟨r, e1, e2.trans ?_⟩
      constructor
      · rintro ⟨h3, h4⟩
        refine ⟨fun j hj hl => ?_, h4⟩
        rcases Nat.eq_or_lt_of_le hj with e | e
        · rw [← e]; exact h1
        · exact h3 j (by omega) hl
      · rintro ⟨h3, h4⟩
        exact ⟨fun j hj hl => h3 j (by omega) hl, h4⟩
    · rw [if_neg h1]
      exact ⟨_, rfl, by simp only [Bool.false_eq_true, false_iff]; rintro ⟨h3, _⟩; exact h1 (h3 i (Nat.le_refl _) (by omega))⟩
theorem len_list (s : ByteArray) : s.toList.length = s.size := by rw [ByteArray.toList_eq]; exact data_length s
theorem ref_tname (s : ByteArray) (k : Nat) (hk : 33 ≤ k) : manometerref18_Named.f k s = some (tnameB s) := by
  unfold manometerref18_Named.f tnameB
  by_cases h : (s.size : Int) ≤ 32
  · rw [if_pos h, if_pos h]
    unfold manometerref05_Named.f
    obtain ⟨r, e1, e2⟩ := named_l0 s (by omega) s.size 0 k (by omega) (by omega)
    rw [show manometerref05_Named.l0 k s (s.size : Int) 0 = some r from e1, Option.bind_some]
    congr 1
    apply bool_eq
    rw [e2]
    unfold named
    by_cases h0 : s.toList = [] ∨ 64 < s.size
    · rw [if_pos h0]
      simp only [Bool.false_eq_true, iff_false]
      rintro ⟨_, h1, h2, _⟩
      rcases h0 with h0 | h0
      · have h5 := congrArg List.length h0
        rw [len_list] at h5
        simp only [List.length_nil] at h5
        omega
      · omega
    · rw [if_neg h0, go_spec s (s.size + 1) 0 (by omega)]
      have hpos : 0 < s.size := by
        refine Nat.pos_of_ne_zero (fun e => h0 (.inl ?_))
        have : s.toList.length = 0 := by rw [len_list]; exact e
        exact List.eq_nil_of_length_eq_zero this
      exact ⟨fun ⟨h3, _, _, h4⟩ => ⟨h3, fun _ _ => h4⟩, fun ⟨h3, h4⟩ => ⟨h3, hpos, by omega, h4 rfl hpos⟩⟩
  · rw [if_neg h, if_neg h]
theorem id_f (n : Int) : manometerref18_id.f n = some (decide (1 ≤ n ∧ n ≤ 99)) := by
  unfold manometerref18_id.f
  by_cases h : n ≥ 1
  · rw [if_pos h]
    congr 1
    apply decide_eq_decide.2
    omega
  · rw [if_neg h]
    congr 1
    exact (decide_eq_false (by omega)).symm
theorem key_f (k : S23) : manometerref18_key.f k.f0 k.f1 = some (keyedB k) := by
  unfold manometerref18_key.f keyedB
  rw [id_f, Option.bind_some]
  by_cases h1 : 1 ≤ k.f0 ∧ k.f0 ≤ 99
  · rw [decide_eq_true h1, if_pos rfl]
    by_cases h2 : (k.f1.size : Int) ≥ 16
    · rw [if_pos h2]
      congr 1
      apply decide_eq_decide.2
      omega
    · rw [if_neg h2]
      congr 1
      exact (decide_eq_false (by omega)).symm
  · rw [decide_eq_false h1, if_neg (by decide)]
    congr 1
    exact (decide_eq_false (by omega)).symm
theorem reflim_f (l : S25) : manometerref18_limits.f l.f0 l.f1 l.f2 l.f3 = some (limB l) := by
  unfold manometerref18_limits.f
  repeat' split
  all_goals
    congr 1
    apply bool_eq
    simp only [limB, decide_eq_true_eq, Bool.false_eq_true, false_iff]
    omega
set_option maxHeartbeats 1000000 in
theorem refright_f (c : S27) : manometerref18_Right.f 40 c.f0 c.f1 c.f2.f0 c.f2.f1 c.f3.f0 c.f3.f1 c.f3.f2 c.f3.f3 c.f4 c.f5 c.f6 = some (rightE c) := by
  have key := key_f c.f2
  have lim := reflim_f c.f3
  have idf := id_f c.f2.f0
  have t1 : manometerref18_Named.f 39 c.f1 = some (tnameB c.f1) := ref_tname _ _ (by decide)
  have t2 : manometerref18_Named.f 35 c.f6 = some (tnameB c.f6) := ref_tname _ _ (by decide)
  unfold manometerref18_Right.f rightE
  by_cases h0 : c.f0 < 0
  · rw [if_pos h0, if_pos (.inl h0)]
    simp [manometerref18_Right.j0]
  rw [if_neg h0]
  by_cases h5 : 5 < c.f0
  · rw [if_pos (.inr h5), decide_eq_true (show c.f0 > 5 from h5)]
    simp [manometerref18_Right.j0]
  rw [if_neg (by omega), decide_eq_false (by omega)]
  rw [manometerref18_Right.j0, if_neg (show ¬ false = true by decide), t1, Option.bind_some]
  cases tnameB c.f1
  · simp
  rw [if_pos rfl, key, if_neg (show ¬ true = false by decide)]
  simp only [Option.bind_some]
  by_cases d0 : c.f0 = 0
  · rw [if_pos d0, if_pos d0]
    rw [manometerref18_Right.j1]
    cases keyedB c.f2
    · rw [if_pos (by rfl), manometerref18_Right.j2, if_pos (by rfl), if_pos rfl]
    rw [if_neg (by decide), if_neg (by omega), manometerref18_Right.j2, if_neg (by decide), if_pos d0, lim, Option.bind_some, manometerref18_Right.j3, if_neg (show ¬ true = false by decide)]
    cases limB c.f3
    · rw [if_pos (by rfl), if_pos (.inl rfl)]
    rw [if_neg (by decide), if_pos d0]
    simp only [Bool.true_eq_false, false_or]
    by_cases q1 : c.f4 < 1
    · simp [manometerref18_Right.j4, q1]
    by_cases q2 : 64 < c.f4
    · simp [manometerref18_Right.j4, q1, q2]
    by_cases q3 : c.f5 < 3
    · simp [manometerref18_Right.j4, q1, q2, q3]
    by_cases q4 : 16 < c.f5
    · simp [manometerref18_Right.j4, q1, q2, q3, q4]
    · simp [manometerref18_Right.j4, q1, q2, q3, q4, d0]
  rw [if_neg d0, if_neg d0]
  have j23 : ∀ b : Bool, c.f0 ≠ 0 → c.f0 ≠ 3 → c.f0 < 4 → manometerref18_Right.j2 38 b c.f0 c.f1 c.f2.f0 c.f2.f1 c.f3.f0 c.f3.f1 c.f3.f2 c.f3.f3 c.f4 c.f5 c.f6 = some (if b = true then 181 else 0) := by
    intro b h1 h2 h3
    rw [manometerref18_Right.j2]
    cases b
    · rw [if_neg (by decide), if_neg h1, if_neg h2, manometerref18_Right.j3, if_neg (by decide), if_neg h1, manometerref18_Right.j4, if_neg (by decide), if_pos h3, if_neg (by decide)]
    · rw [if_pos rfl, if_pos rfl]
  by_cases d1 : c.f0 = 1
  · rw [if_pos d1, if_pos d1, manometerref18_Right.j1]
    cases keyedB c.f2
    · rw [if_pos (by rfl), j23 _ d0 (by omega) (by omega)]
      simp
    · rw [if_neg (by decide), if_neg (by omega), j23 _ d0 (by omega) (by omega)]
      simp
  rw [if_neg d1, if_neg d1, manometerref18_Right.j1, if_neg (by decide)]
  by_cases d2 : c.f0 = 2
  · rw [if_pos d2, if_pos d2, idf, Option.bind_some, j23 _ d0 (by omega) (by omega)]
    congr 1
    by_cases q1 : 1 ≤ c.f2.f0 ∧ c.f2.f0 ≤ 99
    · rw [decide_eq_true q1, if_neg (by decide), if_neg (by omega)]
    · rw [decide_eq_false q1, if_pos (by decide), if_pos (by omega)]
  rw [if_neg d2, if_neg d2, manometerref18_Right.j2, if_neg (by decide), if_neg d0]
  by_cases d3 : c.f0 = 3
  · rw [if_pos d3, if_pos d3, lim, Option.bind_some, manometerref18_Right.j3]
    cases limB c.f3
    · simp
    · rw [if_neg (by decide), if_neg d0, manometerref18_Right.j4, if_neg (by decide), if_pos (by omega), if_neg (by decide)]
  rw [if_neg d3, if_neg d3, manometerref18_Right.j3, if_neg (by decide), if_neg d0, manometerref18_Right.j4, if_neg (by decide), if_neg (by omega), t2, Option.bind_some]
  cases tnameB c.f6
  · simp
  · rw [if_pos rfl, if_neg (show ¬ true = false by decide)]
    by_cases e : c.f6 = c.f1
    · rw [if_pos (str_iff.2 e), if_pos e]
    · rw [if_neg (fun h => e (str_iff.1 h)), if_neg e]
end Go.Proofs.Yticoaaddhhiglaa.T
