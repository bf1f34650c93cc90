/- The network by hand: a tenant's name, by the program and by the document; plain Lean (from the tenants' TG). -/
import Derived.Test.YtlnipfmgdkiboaaNL
import Derived.Test.YtlnipfmgdkiboaaQ2
namespace Go.Proofs.Ytlnipfmgdkiboaa.N
open Go.RowKit Go.Proofs.Ytlnipfmgdkiboaa.Q Go.Proofs.YtlnipfmgdkiboaaW.PrintWords Go.Proofs.YtlnipfmgdkiboaaW.PrintLast Go.Proofs.YtlnipfmgdkiboaaW.PrintMore
set_option linter.unusedVariables false
set_option linter.unusedSimpArgs false
def letB (c : Int) : Bool := decide ((97 ≤ c ∧ c ≤ 122) ∨ (65 ≤ c ∧ c ≤ 90) ∨ (48 ≤ c ∧ c ≤ 57) ∨ c = 95)
def digB (c : Int) : Bool := decide (48 ≤ c ∧ c ≤ 57)
theorem bool_eq {a b : Bool} (h : a = true ↔ b = true) : a = b := by cases a <;> cases b <;> simp_all
theorem Letter_f (c : Int) : manometerref05_Letter.f c = some (letB c) := by
  unfold manometerref05_Letter.f
  repeat' split
  all_goals
    congr 1
    apply bool_eq
    simp only [letB, decide_eq_true_eq, beq_iff_eq, true_iff, false_iff, Bool.true_eq_false, Bool.false_eq_true]
    omega
theorem letter2_f (c : Int) : labels_letter.f c = some (letB c, letB c && !digB c) := by
  unfold labels_letter.f
  repeat' split
  all_goals
    congr 1
    apply Prod.ext
    · apply bool_eq
      simp only [letB, decide_eq_true_eq, beq_iff_eq, true_iff, false_iff, Bool.true_eq_false, Bool.false_eq_true]
      omega
    · apply bool_eq
      simp only [letB, digB, Bool.and_eq_true, Bool.not_eq_true', decide_eq_true_eq, decide_eq_false_iff_not, beq_iff_eq, true_iff, false_iff, Bool.true_eq_false, Bool.false_eq_true]
      omega
theorem go_spec (s : ByteArray) : ∀ (k pos : Nat), s.size < k + pos → (nameGo s k pos = true ↔ (∀ i : Nat, pos ≤ i → i < s.size → letB (bt s i) = true) ∧ (pos = 0 → 0 < s.size → digB (bt s 0) = false))
  | 0, pos, h => by
    unfold nameGo
    simp only [true_iff]
    exact ⟨fun i h1 h2 => by omega, fun h1 h2 => by omega⟩
  | k + 1, pos, h => by
    rw [nameGo]
    by_cases hp : pos < s.size
    · rw [if_pos hp]
      by_cases ha : (s[pos]'hp).toNat < 128
      · have hb : ((s[pos]'hp).toNat : Int) = bt s pos := by
          have := bt_at s pos (by simpa using hp)
          simpa using this
        rw [decode_ascii s pos hp ha]
        dsimp only
        rw [show (((s[pos]'hp).toNat : Nat) : Int) = bt s pos from hb, letter2_f]
        dsimp only
        by_cases h1 : letB (bt s pos) = true
        · by_cases h2 : pos = 0 ∧ (letB (bt s pos) && !digB (bt s pos)) = false
          · rw [if_neg (fun h => h.2 h2)]
            simp only [Bool.false_eq_true, false_iff]
            rintro ⟨_, h4⟩
            obtain ⟨rfl, h5⟩ := h2
            rw [h1, Bool.true_and] at h5
            have := h4 rfl hp
            rw [show ((0 : Nat) : Int) = (0 : Int) from rfl, this] at h5
            exact absurd h5 (by decide)
          · rw [if_pos ⟨h1, h2⟩, go_spec s k (pos + 1) (by omega)]
            constructor
            · rintro ⟨h3, _⟩
              refine ⟨fun i hi hl => ?_, fun e hl => ?_⟩
              · rcases Nat.eq_or_lt_of_le hi with e | e
                · rw [← e]; exact h1
                · exact h3 i (by omega) hl
              · subst e
                cases hd : digB (bt s 0)
                · rfl
                · exact absurd ⟨rfl, by rw [show ((0 : Nat) : Int) = (0 : Int) from rfl, hd]; simp⟩ h2
            · rintro ⟨h3, h4⟩
              exact ⟨fun i hi hl => h3 i (by omega) hl, fun e _ => by omega⟩
        · rw [if_neg (fun h => h1 h.1)]
          simp only [Bool.false_eq_true, false_iff]
          rintro ⟨h3, _⟩
          exact h1 (h3 pos (Nat.le_refl _) hp)
      · have hh := decode_high s pos hp (by omega)
        have hl : letB ((Utf8.decode s pos).1 : Int) = false := by
          apply decide_eq_false
          have := hh.1
          omega
        rw [letter2_f]
        dsimp only
        rw [hl, if_neg (by simp)]
        simp only [Bool.false_eq_true, false_iff]
        rintro ⟨h3, _⟩
        have h5 := h3 pos (Nat.le_refl _) hp
        have hb : ((s[pos]'hp).toNat : Int) = bt s pos := by
          have := bt_at s pos (by simpa using hp)
          simpa using this
        rw [← hb] at h5
        have := of_decide_eq_true h5
        omega
    · rw [if_neg hp]
      simp only [true_iff]
      exact ⟨fun i h1 h2 => by omega, fun h1 h2 => by omega⟩
theorem named_l0 (s : ByteArray) (hs : s.size ≤ 9223372036854775807) : ∀ (d i k : Nat), i + d = s.size → d < k → ∃ r, manometerref05_Named.l0 k s (s.size : Int) (i : Int) = some r ∧ (r = true ↔ (∀ j : Nat, i ≤ j → j < s.size → letB (bt s j) = true) ∧ 1 ≤ s.size ∧ s.size ≤ 64 ∧ digB (bt s 0) = false)
  | 0, i, k + 1, h, _ => by
    rw [manometerref05_Named.l0, if_neg (by omega)]
    by_cases h1 : (s.size : Int) ≥ 1
    · by_cases h2 : (s.size : Int) ≤ 64
      · rw [if_pos h1, if_pos h2, if_pos (by omega)]
        by_cases h3 : bt s 0 < 48
        · rw [if_pos h3]
          exact ⟨_, rfl, by simp only [true_iff]; exact ⟨fun j hj hl => by omega, by omega, by omega, by apply decide_eq_false; omega⟩⟩
        · rw [if_neg h3]
          refine ⟨_, rfl, ?_⟩
          simp only [decide_eq_true_eq, digB, decide_eq_false_iff_not]
          exact ⟨fun h => ⟨fun j hj hl => by omega, by omega, by omega, by omega⟩, fun h => by omega⟩
      · rw [if_pos h1, if_neg h2]
        exact ⟨_, rfl, by simp only [Bool.false_eq_true, false_iff]; rintro ⟨_, _, h, _⟩; omega⟩
    · rw [if_neg h1]
      exact ⟨_, rfl, by simp only [Bool.false_eq_true, false_iff]; rintro ⟨_, h, _, _⟩; omega⟩
  | d + 1, i, k + 1, h, hk => by
    rw [manometerref05_Named.l0, if_pos (by omega), if_pos (by omega), if_pos (by omega), Letter_f, Option.bind_some]
    by_cases h1 : letB (bt s (i : Int)) = true
    · rw [if_pos h1, show wrap64 ((i : Int) + 1) = ((i + 1 : Nat) : Int) by unfold wrap64; omega]
      obtain ⟨r, e1, e2⟩ := named_l0 s hs d (i + 1) k (by omega) (by omega)
      refine ⟨r, e1, e2.trans ?_⟩
      constructor
      · rintro ⟨h3, h4⟩
        refine ⟨fun j hj hl => ?_, h4⟩
        rcases Nat.eq_or_lt_of_le hj with e | e
        · rw [← e]; exact h1
        · exact h3 j (by omega) hl
      · rintro ⟨h3, h4⟩
        exact ⟨fun j hj hl => h3 j (by omega) hl, h4⟩
    · rw [if_neg h1]
      exact ⟨_, rfl, by simp only [Bool.false_eq_true, false_iff]; rintro ⟨h3, _⟩; exact h1 (h3 i (Nat.le_refl _) (by omega))⟩
theorem len_list (s : ByteArray) : s.toList.length = s.size := by rw [ByteArray.toList_eq]; exact data_length s
theorem named_iff (s : ByteArray) : named s = true ↔ (∀ j : Nat, 0 ≤ j → j < s.size → letB (bt s (j : Int)) = true) ∧ (s.size : Int) ≥ 1 ∧ (s.size : Int) ≤ 64 ∧ digB (bt s 0) = false := by
  unfold named
  by_cases h0 : s.toList = [] ∨ 64 < s.size
  · rw [if_pos h0]
    simp only [Bool.false_eq_true, false_iff]
    rintro ⟨_, h1, h2, _⟩
    rcases h0 with h0 | h0
    · have h5 := congrArg List.length h0
      rw [len_list] at h5
      simp only [List.length_nil] at h5
      omega
    · omega
  · rw [if_neg h0, go_spec s (s.size + 1) 0 (by omega)]
    have hpos : 0 < s.size := by
      refine Nat.pos_of_ne_zero (fun e => h0 (.inl ?_))
      have : s.toList.length = 0 := by rw [len_list]; exact e
      exact List.eq_nil_of_length_eq_zero this
    exact ⟨fun ⟨h3, h4⟩ => ⟨h3, by omega, by omega, h4 rfl hpos⟩, fun ⟨h3, _, _, h4⟩ => ⟨h3, fun _ _ => h4⟩⟩
theorem ref_named (s : ByteArray) (hs : s.size ≤ 9223372036854775807) : manometerref05_Named.f (s.size + 1) s = some (named s) := by
  unfold manometerref05_Named.f
  obtain ⟨r, e1, e2⟩ := named_l0 s hs s.size 0 (s.size + 1) (by omega) (by omega)
  rw [show manometerref05_Named.l0 (s.size + 1) s (s.size : Int) 0 = some r from e1]
  congr 1
  apply bool_eq
  rw [e2, named_iff]
  constructor
  · rintro ⟨h1, h2, h3, h4⟩
    exact ⟨h1, by omega, by omega, h4⟩
  · rintro ⟨h1, h2, h3, h4⟩
    exact ⟨h1, by omega, by omega, h4⟩
theorem ref_tenant (s : ByteArray) (hs : s.size ≤ 9223372036854775807) : manometerref17_Tenant.f (s.size + 1) s = some (tenant s) := by
  unfold manometerref17_Tenant.f tenant
  rw [ref_named s hs, Option.bind_some]
  by_cases h : s.size ≤ 32
  · rw [if_pos h, show decide ((s.size : Int) ≤ 32) = true from decide_eq_true (by omega)]
    cases named s <;> rfl
  · rw [if_neg h, show decide ((s.size : Int) ≤ 32) = false from decide_eq_false (by omega)]
    cases named s <;> rfl
theorem rtenant_calls (s : ByteArray) (hs : s.size ≤ 9223372036854775807) (w : World) : Calls Try.prog 18 #[.string s] w fun e w' => e = .returned (.bool (tenant s)) ∧ Below w.heap.size w w' := (manometerref17_Tenant.calls (s.size + 1) s _ w (ref_tenant s hs)).mono (fun e w' h => ⟨h.1, h.2.below⟩)
end Go.Proofs.Ytlnipfmgdkiboaa.N
