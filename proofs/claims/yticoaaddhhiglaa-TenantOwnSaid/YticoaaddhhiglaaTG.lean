import Derived.Test.YticoaaddhhiglaaTE
import Derived.Test.YticoaaddhhiglaaQ11
/- The document's Right is the program's: plain Lean. -/
namespace Go.Proofs.Yticoaaddhhiglaa.T
open Go.RowKit Go.Proofs.Yticoaaddhhiglaa.Q Go.Proofs.YticoaaddhhiglaaW.PrintWords Go.Proofs.YticoaaddhhiglaaW.PrintLast Go.Proofs.YticoaaddhhiglaaW.PrintMore
open Go.Proofs.Yticoaaddhhiglaa.E (letterE.f nameGo named)
set_option linter.unusedVariables false
set_option linter.unusedSimpArgs false
def letB (c : Int) : Bool := decide ((97 ≤ c ∧ c ≤ 122) ∨ (65 ≤ c ∧ c ≤ 90) ∨ (48 ≤ c ∧ c ≤ 57) ∨ c = 95)
def digB (c : Int) : Bool := decide (48 ≤ c ∧ c ≤ 57)
theorem bool_eq {a b : Bool} (h : a = true ↔ b = true) : a = b := by cases a <;> cases b <;> simp_all
theorem Letter_f (c : Int) : manometerref05_Letter.f c = some (letB c) := by
  unfold manometerref05_Letter.f
  repeat' split
  all_goals
    congr 1
    apply bool_eq
    simp only [letB, decide_eq_true_eq, beq_iff_eq, true_iff, false_iff, Bool.true_eq_false, Bool.false_eq_true]
    omega
theorem letterE_f (c : Int) : letterE.f c = some (letB c, letB c && !digB c) := by
  unfold letterE.f
  repeat' split
  all_goals
    congr 1
    apply Prod.ext
    · apply bool_eq
      simp only [letB, decide_eq_true_eq, beq_iff_eq, true_iff, false_iff, Bool.true_eq_false, Bool.false_eq_true]
      omega
    · apply bool_eq
      simp only [letB, digB, Bool.and_eq_true, Bool.not_eq_true', decide_eq_true_eq, decide_eq_false_iff_not, beq_iff_eq, true_iff, false_iff, Bool.true_eq_false, Bool.false_eq_true]
      omega
theorem go_spec (s : ByteArray) : ∀ (k pos : Nat), s.size < k + pos → (nameGo s k pos = true ↔ (∀ i : Nat, pos ≤ i → i < s.size → letB (bt s i) = true) ∧ (pos = 0 → 0 < s.size → digB (bt s 0) = false))
  | 0, pos, h => by
    unfold nameGo
    simp only [true_iff]
    exact ⟨fun i h1 h2 => by omega, fun h1 h2 => by omega⟩
  | k + 1, pos, h => by
    rw [nameGo]
    by_cases hp : pos < s.size
    · rw [if_pos hp]
      by_cases ha : (s[pos]'hp).toNat < 128
      · have hb : ((s[pos]'hp).toNat : Int) = bt s pos := by
          have := bt_at s pos (by simpa using hp)
          simpa using this
        rw [decode_ascii s pos hp ha]
        dsimp only
        rw [show (((s[pos]'hp).toNat : Nat) : Int) = bt s pos from hb, letterE_f]
        dsimp only
        by_cases h1 : letB (bt s pos) = true
        · by_cases h2 : pos = 0 ∧ (letB (bt s pos) && !digB (bt s pos)) = false
          · rw [if_neg (fun h => h.2 h2)]
            simp only [Bool.false_eq_true, false_iff]
            rintro ⟨_, h4⟩
            obtain ⟨rfl, h5⟩ := h2
            rw [h1, Bool.true_and] at h5
            have := h4 rfl hp
            rw [show ((0 : Nat) : Int) = (0 : Int) from rfl, this] at h5
            exact absurd h5 (by decide)
          · rw [if_pos ⟨h1, h2⟩, go_spec s k (pos + 1) (by omega)]
            constructor
            · rintro ⟨h3, _⟩
              refine ⟨fun i hi hl => ?_, fun e hl => ?_⟩
              · rcases Nat.eq_or_lt_of_le hi with e | e
                · rw [← e]; exact h1
                · exact h3 i (by omega) hl
              · subst e
                cases hd : digB (bt s 0)
                · rfl
                · exact absurd ⟨rfl, by rw [show ((0 : Nat) : Int) = (0 : Int) from rfl, hd]; simp⟩ h2
            · rintro ⟨h3, h4⟩
              exact ⟨fun i hi hl => h3 i (by omega) hl, fun e _ => by omega⟩
        · rw [if_neg (fun h => h1 h.1)]
          simp only [Bool.false_eq_true, false_iff]
          rintro ⟨h3, _⟩
          exact h1 (h3 pos (Nat.le_refl _) hp)
      · have hh := decode_high s pos hp (by omega)
        have hl : letB ((Utf8.decode s pos).1 : Int) = false := by
          apply decide_eq_false
          have := hh.1
          omega
        rw [letterE_f]
        dsimp only
        rw [hl, if_neg (by simp)]
        simp only [Bool.false_eq_true, false_iff]
        rintro ⟨h3, _⟩
        have h5 := h3 pos (Nat.le_refl _) hp
        have hb : ((s[pos]'hp).toNat : Int) = bt s pos := by
          have := bt_at s pos (by simpa using hp)
          simpa using this
        rw [← hb] at h5
        have := of_decide_eq_true h5
        omega
    · rw [if_neg hp]
      simp only [true_iff]
      exact ⟨fun i h1 h2 => by omega, fun h1 h2 => by omega⟩
theorem named_l0 (s : ByteArray) (hs : s.size ≤ 1000) : ∀ (d i k : Nat), i + d = s.size → d < k → ∃ r, manometerref05_Named.l0 k s (s.size : Int) (i : Int) = some r ∧ (r = true ↔ (∀ j : Nat, i ≤ j → j < s.size → letB (bt s j) = true) ∧ 1 ≤ s.size ∧ s.size ≤ 64 ∧ digB (bt s 0) = false)
  | 0, i, k + 1, h, _ => by
    rw [manometerref05_Named.l0, if_neg (by omega)]
    by_cases h1 : (s.size : Int) ≥ 1
    · by_cases h2 : (s.size : Int) ≤ 64
      · rw [if_pos h1, if_pos h2, if_pos (by omega)]
        by_cases h3 : bt s 0 < 48
        · rw [if_pos h3]
          exact ⟨_, rfl, by simp only [true_iff]; exact ⟨fun j hj hl => by omega, by omega, by omega, by apply decide_eq_false; omega⟩⟩
        · rw [if_neg h3]
          refine ⟨_, rfl, ?_⟩
          simp only [decide_eq_true_eq, digB, decide_eq_false_iff_not]
          exact ⟨fun h => ⟨fun j hj hl => by omega, by omega, by omega, by omega⟩, fun h => by omega⟩
      · rw [if_pos h1, if_neg h2]
        exact ⟨_, rfl, by simp only [Bool.false_eq_true, false_iff]; rintro ⟨_, _, h, _⟩; omega⟩
    · rw [if_neg h1]
      exact ⟨_, rfl, by simp only [Bool.false_eq_true, false_iff]; rintro ⟨_, h, _, _⟩; omega⟩
  | d + 1, i, k + 1, h, hk => by
    rw [manometerref05_Named.l0, if_pos (by omega), if_pos (by omega), if_pos (by omega), Letter_f, Option.bind_some]
    by_cases h1 : letB (bt s (i : Int)) = true
    · rw [if_pos h1, show wrap64 ((i : Int) + 1) = ((i + 1 : Nat) : Int) by unfold wrap64; omega]
      obtain ⟨r, e1, e2⟩ := named_l0 s hs d (i + 1) k (by omega) (by omega)
      refine ⟨r, e1, e2.trans ?_⟩
      constructor
      · rintro ⟨h3, h4⟩
        refine ⟨fun j hj hl => ?_, h4⟩
        rcases Nat.eq_or_lt_of_le hj with e | e
        · rw [← e]; exact h1
        · exact h3 j (by omega) hl
      · rintro ⟨h3, h4⟩
        exact ⟨fun j hj hl => h3 j (by omega) hl, h4⟩
    · rw [if_neg h1]
      exact ⟨_, rfl, by simp only [Bool.false_eq_true, false_iff]; rintro ⟨h3, _⟩; exact h1 (h3 i (Nat.le_refl _) (by omega))⟩
theorem len_list (s : ByteArray) : s.toList.length = s.size := by rw [ByteArray.toList_eq]; exact data_length s
theorem ref_tname (s : ByteArray) (k : Nat) (hk : 33 ≤ k) : manometerref18_Named.f k s = some (tnameB s) := by
  unfold manometerref18_Named.f tnameB
  by_cases h : (s.size : Int) ≤ 32
  · rw [if_pos h, if_pos h]
    unfold manometerref05_Named.f
    obtain ⟨r, e1, e2⟩ := named_l0 s (by omega) s.size 0 k (by omega) (by omega)
    rw [show manometerref05_Named.l0 k s (s.size : Int) 0 = some r from e1, Option.bind_some]
    congr 1
    apply bool_eq
    rw [e2]
    unfold named
    by_cases h0 : s.toList = [] ∨ 64 < s.size
    · rw [if_pos h0]
      simp only [Bool.false_eq_true, iff_false]
      rintro ⟨_, h1, h2, _⟩
      rcases h0 with h0 | h0
      · have h5 := congrArg List.length h0
        rw [len_list] at h5
        simp only [List.length_nil] at h5
        omega
      · omega
    · rw [if_neg h0, go_spec s (s.size + 1) 0 (by omega)]
      have hpos : 0 < s.size := by
        refine Nat.pos_of_ne_zero (fun e => h0 (.inl ?_))
        have : s.toList.length = 0 := by rw [len_list]; exact e
        exact List.eq_nil_of_length_eq_zero this
      exact ⟨fun ⟨h3, _, _, h4⟩ => ⟨h3, fun _ _ => h4⟩, fun ⟨h3, h4⟩ => ⟨h3, hpos, by omega, h4 rfl hpos⟩⟩
  · rw [if_neg h, if_neg h]
theorem id_f (n : Int) : manometerref18_id.f n = some (decide (1 ≤ n ∧ n ≤ 99)) := by
  unfold manometerref18_id.f
  by_cases h : n ≥ 1
  · rw [if_pos h]
    congr 1
    apply decide_eq_decide.2
    omega
  · rw [if_neg h]
    congr 1
    exact (decide_eq_false (by omega)).symm
theorem key_f (k : S23) : manometerref18_key.f k.f0 k.f1 = some (keyedB k) := by
  unfold manometerref18_key.f keyedB
  rw [id_f, Option.bind_some]
  by_cases h1 : 1 ≤ k.f0 ∧ k.f0 ≤ 99
  · rw [decide_eq_true h1, if_pos rfl]
    by_cases h2 : (k.f1.size : Int) ≥ 16
    · rw [if_pos h2]
      congr 1
      apply decide_eq_decide.2
      omega
    · rw [if_neg h2]
      congr 1
      exact (decide_eq_false (by omega)).symm
  · rw [decide_eq_false h1, if_neg (by decide)]
    congr 1
    exact (decide_eq_false (by omega)).symm
theorem reflim_f (l : S25) : manometerref18_limits.f l.f0 l.f1 l.f2 l.f3 = some (limB l) := by
  unfold manometerref18_limits.f
  repeat' split
  all_goals
    congr 1
    apply bool_eq
    simp only [limB, decide_eq_true_eq, Bool.false_eq_true, false_iff]
    omega
theorem rtname_calls (s : ByteArray) (w : World) : Calls Try.prog 34 #[.string s] w fun e w' => e = .returned (.bool (tnameB s)) ∧ Below w.heap.size w w' := (manometerref18_Named.calls 33 s _ w (ref_tname s 33 (Nat.le_refl _))).mono (fun e w' h => ⟨h.1, h.2.below⟩)
theorem rkey_calls (k : S23) (w : World) : Calls Try.prog 35 #[.agg #[.int .i64 k.f0, .string k.f1]] w fun e w' => e = .returned (.bool (keyedB k)) ∧ Below w.heap.size w w' := manometerref18_key.calls k.f0 k.f1 _ w (key_f k)
theorem rlim_calls (l : S25) (w : World) : Calls Try.prog 37 #[.agg #[.int .i64 l.f0, .int .i64 l.f1, .int .i64 l.f2, .int .i64 l.f3]] w fun e w' => e = .returned (.bool (limB l)) ∧ Below w.heap.size w w' := manometerref18_limits.calls l.f0 l.f1 l.f2 l.f3 _ w (reflim_f l)
theorem rid_calls (n : Int) (w : World) : Calls Try.prog 36 #[.int .i64 n] w fun e w' => e = .returned (.bool (decide (1 ≤ n ∧ n ≤ 99))) ∧ Below w.heap.size w w' := (manometerref18_id.calls n _ w (id_f n)).mono (fun e w' h => ⟨h.1, h.2.below⟩)
set_option maxHeartbeats 4000000 in
set_option maxRecDepth 100000 in
theorem refright_calls (c : S27) (w : World) : Calls Try.prog 12 #[.agg (chg c).toArray] w fun e w' => e = .returned (.int .i64 (rightE c)) ∧ Below w.heap.size w w' := by
  obtain ⟨d, tn, k, lm, qu, ri, rdr⟩ := c
  obtain ⟨rr, hrr⟩ : ∃ rr, rr = rightE ⟨d, tn, k, lm, qu, ri, rdr⟩ := ⟨_, rfl⟩
  rw [← hrr]
  unfold rightE at hrr
  dsimp only at hrr
  obtain ⟨tb, htb⟩ : ∃ b, b = tnameB tn := ⟨_, rfl⟩
  obtain ⟨ub, hub⟩ : ∃ b, b = tnameB rdr := ⟨_, rfl⟩
  obtain ⟨kb, hkb⟩ : ∃ b, b = keyedB k := ⟨_, rfl⟩
  obtain ⟨lb, hlb⟩ : ∃ b, b = limB lm := ⟨_, rfl⟩
  rw [← htb, ← hub, ← hkb, ← hlb] at hrr
  have HTB := Aside0.mk htb; have HUB := Aside0.mk hub; have HKB := Aside0.mk hkb; have HLB := Aside0.mk hlb
  clear htb hub hkb hlb
  by_cases h0 : d < 0
  · rw [if_pos (.inl h0)] at hrr
    have HV := Aside0.mk (show rr = 1 from hrr)
    clear hrr
    unfold chg
    go_enter Try.func12, Try.ntmps12
    go_wp2_with (first
      | ((with_reducible refine gate_dst (N := 1) rfl ?_); refine box_event ?hg (N := 1) ?hd (cs := (chg ⟨d, tn, k, lm, qu, ri, rdr⟩).toArray) (t := 27) ?hr ?_; (case hd => rfl); (case hg => rfl); (case hr => first | (go_simp; done) | (go_simp; rfl)); intro X hX w1 hx1 hb1; have H1 := Aside0.mk (And.intro hb1 hx1); obtain ⟨x0, x1, x2, x3, x4, x5, x6, x7, x8, x9, x10⟩ := cellsX hx1; (try dsimp only at x0 x1 x2 x3 x4 x5 x6 x7 x8 x9 x10); clear hX hx1 hb1))
    go_ret
    exact ⟨by rw [HV.out]; rfl, H1.out.1⟩
  by_cases h5 : d > 5
  · rw [if_pos (.inr h5)] at hrr
    have HV := Aside0.mk (show rr = 1 from hrr)
    clear hrr
    unfold chg
    go_enter Try.func12, Try.ntmps12
    go_wp2_with (first
      | ((with_reducible refine gate_dst (N := 1) rfl ?_); refine box_event ?hg (N := 1) ?hd (cs := (chg ⟨d, tn, k, lm, qu, ri, rdr⟩).toArray) (t := 27) ?hr ?_; (case hd => rfl); (case hg => rfl); (case hr => first | (go_simp; done) | (go_simp; rfl)); intro X hX w1 hx1 hb1; have H1 := Aside0.mk (And.intro hb1 hx1); obtain ⟨x0, x1, x2, x3, x4, x5, x6, x7, x8, x9, x10⟩ := cellsX hx1; (try dsimp only at x0 x1 x2 x3 x4 x5 x6 x7 x8 x9 x10); clear hX hx1 hb1))
    go_ret
    exact ⟨by rw [HV.out]; rfl, H1.out.1⟩
  rw [if_neg (by omega)] at hrr
  cases tb
  · rw [if_pos rfl] at hrr
    have HV := Aside0.mk (show rr = 50 from hrr)
    clear hrr
    unfold chg
    go_enter Try.func12, Try.ntmps12
    go_wp2_with (first
      | ((with_reducible refine gate_dst (N := 1) rfl ?_); refine box_event ?hg (N := 1) ?hd (cs := (chg ⟨d, tn, k, lm, qu, ri, rdr⟩).toArray) (t := 27) ?hr ?_; (case hd => rfl); (case hg => rfl); (case hr => first | (go_simp; done) | (go_simp; rfl)); intro X hX w1 hx1 hb1; have H1 := Aside0.mk (And.intro hb1 hx1); obtain ⟨x0, x1, x2, x3, x4, x5, x6, x7, x8, x9, x10⟩ := cellsX hx1; (try dsimp only at x0 x1 x2 x3 x4 x5 x6 x7 x8 x9 x10); clear hX hx1 hb1)
      | (go_at_call 34; (with_reducible refine (rtname_calls tn _).mono ?_); rintro e w_Ha ⟨rfl, hb⟩; rw [← HTB.out]; have Ha := Aside0.mk (And.intro (below_step H1.out.1 hb) ((hb.block X (heap_lt H1.out.2)).trans H1.out.2)); clear hb x0 x1 x2 x3 x4 x5 x6 x7 x8 x9 x10; obtain ⟨x0, x1, x2, x3, x4, x5, x6, x7, x8, x9, x10⟩ := cellsX Ha.out.2; (try dsimp only at x0 x1 x2 x3 x4 x5 x6 x7 x8 x9 x10)))
    go_ret
    exact ⟨by rw [HV.out]; rfl, Ha.out.1⟩
  rw [if_neg (show ¬ true = false by decide)] at hrr
  by_cases d0 : d = 0
  · subst d0
    clear h0 h5
    rw [if_pos rfl] at hrr
    cases kb
    · rw [if_pos rfl] at hrr
      have HV := Aside0.mk (show rr = 181 from hrr)
      clear hrr
      unfold chg
      go_enter Try.func12, Try.ntmps12
      go_wp2_with (first
        | ((with_reducible refine gate_dst (N := 1) rfl ?_); refine box_event ?hg (N := 1) ?hd (cs := (chg ⟨0, tn, k, lm, qu, ri, rdr⟩).toArray) (t := 27) ?hr ?_; (case hd => rfl); (case hg => rfl); (case hr => first | (go_simp; done) | (go_simp; rfl)); intro X hX w1 hx1 hb1; have H1 := Aside0.mk (And.intro hb1 hx1); obtain ⟨x0, x1, x2, x3, x4, x5, x6, x7, x8, x9, x10⟩ := cellsX hx1; (try dsimp only at x0 x1 x2 x3 x4 x5 x6 x7 x8 x9 x10); clear hX hx1 hb1)
        | (go_at_call 34; (with_reducible refine (rtname_calls tn _).mono ?_); rintro e w_Ha ⟨rfl, hb⟩; rw [← HTB.out]; have Ha := Aside0.mk (And.intro (below_step H1.out.1 hb) ((hb.block X (heap_lt H1.out.2)).trans H1.out.2)); clear hb x0 x1 x2 x3 x4 x5 x6 x7 x8 x9 x10; obtain ⟨x0, x1, x2, x3, x4, x5, x6, x7, x8, x9, x10⟩ := cellsX Ha.out.2; (try dsimp only at x0 x1 x2 x3 x4 x5 x6 x7 x8 x9 x10))
        | (go_at_call 35; (with_reducible refine (rkey_calls k _).mono ?_); rintro e w_Hb ⟨rfl, hb⟩; rw [← HKB.out]; have Hb := Aside0.mk (And.intro (below_step Ha.out.1 hb) ((hb.block X (heap_lt Ha.out.2)).trans Ha.out.2)); clear hb x0 x1 x2 x3 x4 x5 x6 x7 x8 x9 x10; obtain ⟨x0, x1, x2, x3, x4, x5, x6, x7, x8, x9, x10⟩ := cellsX Hb.out.2; (try dsimp only at x0 x1 x2 x3 x4 x5 x6 x7 x8 x9 x10)))
      go_ret
      exact ⟨by rw [HV.out]; rfl, Hb.out.1⟩
    rw [if_neg (show ¬ true = false by decide)] at hrr
    cases lb
    · rw [if_pos (.inl rfl)] at hrr
      have HV := Aside0.mk (show rr = 183 from hrr)
      clear hrr
      unfold chg
      go_enter Try.func12, Try.ntmps12
      go_wp2_with (first
        | ((with_reducible refine gate_dst (N := 1) rfl ?_); refine box_event ?hg (N := 1) ?hd (cs := (chg ⟨0, tn, k, lm, qu, ri, rdr⟩).toArray) (t := 27) ?hr ?_; (case hd => rfl); (case hg => rfl); (case hr => first | (go_simp; done) | (go_simp; rfl)); intro X hX w1 hx1 hb1; have H1 := Aside0.mk (And.intro hb1 hx1); obtain ⟨x0, x1, x2, x3, x4, x5, x6, x7, x8, x9, x10⟩ := cellsX hx1; (try dsimp only at x0 x1 x2 x3 x4 x5 x6 x7 x8 x9 x10); clear hX hx1 hb1)
        | (go_at_call 34; (with_reducible refine (rtname_calls tn _).mono ?_); rintro e w_Ha ⟨rfl, hb⟩; rw [← HTB.out]; have Ha := Aside0.mk (And.intro (below_step H1.out.1 hb) ((hb.block X (heap_lt H1.out.2)).trans H1.out.2)); clear hb x0 x1 x2 x3 x4 x5 x6 x7 x8 x9 x10; obtain ⟨x0, x1, x2, x3, x4, x5, x6, x7, x8, x9, x10⟩ := cellsX Ha.out.2; (try dsimp only at x0 x1 x2 x3 x4 x5 x6 x7 x8 x9 x10))
        | (go_at_call 35; (with_reducible refine (rkey_calls k _).mono ?_); rintro e w_Hb ⟨rfl, hb⟩; rw [← HKB.out]; have Hb := Aside0.mk (And.intro (below_step Ha.out.1 hb) ((hb.block X (heap_lt Ha.out.2)).trans Ha.out.2)); clear hb x0 x1 x2 x3 x4 x5 x6 x7 x8 x9 x10; obtain ⟨x0, x1, x2, x3, x4, x5, x6, x7, x8, x9, x10⟩ := cellsX Hb.out.2; (try dsimp only at x0 x1 x2 x3 x4 x5 x6 x7 x8 x9 x10))
        | (go_at_call 37; (with_reducible refine (rlim_calls lm _).mono ?_); rintro e w_Hc ⟨rfl, hb⟩; rw [← HLB.out]; have Hc := Aside0.mk (And.intro (below_step Hb.out.1 hb) ((hb.block X (heap_lt Hb.out.2)).trans Hb.out.2)); clear hb x0 x1 x2 x3 x4 x5 x6 x7 x8 x9 x10; obtain ⟨x0, x1, x2, x3, x4, x5, x6, x7, x8, x9, x10⟩ := cellsX Hc.out.2; (try dsimp only at x0 x1 x2 x3 x4 x5 x6 x7 x8 x9 x10)))
      go_ret
      exact ⟨by rw [HV.out]; rfl, Hc.out.1⟩
    by_cases q1 : qu < 1
    · rw [if_pos (.inr (.inl q1))] at hrr
      have HV := Aside0.mk (show rr = 183 from hrr)
      clear hrr
      unfold chg
      go_enter Try.func12, Try.ntmps12
      go_wp2_with (first
        | ((with_reducible refine gate_dst (N := 1) rfl ?_); refine box_event ?hg (N := 1) ?hd (cs := (chg ⟨0, tn, k, lm, qu, ri, rdr⟩).toArray) (t := 27) ?hr ?_; (case hd => rfl); (case hg => rfl); (case hr => first | (go_simp; done) | (go_simp; rfl)); intro X hX w1 hx1 hb1; have H1 := Aside0.mk (And.intro hb1 hx1); obtain ⟨x0, x1, x2, x3, x4, x5, x6, x7, x8, x9, x10⟩ := cellsX hx1; (try dsimp only at x0 x1 x2 x3 x4 x5 x6 x7 x8 x9 x10); clear hX hx1 hb1)
        | (go_at_call 34; (with_reducible refine (rtname_calls tn _).mono ?_); rintro e w_Ha ⟨rfl, hb⟩; rw [← HTB.out]; have Ha := Aside0.mk (And.intro (below_step H1.out.1 hb) ((hb.block X (heap_lt H1.out.2)).trans H1.out.2)); clear hb x0 x1 x2 x3 x4 x5 x6 x7 x8 x9 x10; obtain ⟨x0, x1, x2, x3, x4, x5, x6, x7, x8, x9, x10⟩ := cellsX Ha.out.2; (try dsimp only at x0 x1 x2 x3 x4 x5 x6 x7 x8 x9 x10))
        | (go_at_call 35; (with_reducible refine (rkey_calls k _).mono ?_); rintro e w_Hb ⟨rfl, hb⟩; rw [← HKB.out]; have Hb := Aside0.mk (And.intro (below_step Ha.out.1 hb) ((hb.block X (heap_lt Ha.out.2)).trans Ha.out.2)); clear hb x0 x1 x2 x3 x4 x5 x6 x7 x8 x9 x10; obtain ⟨x0, x1, x2, x3, x4, x5, x6, x7, x8, x9, x10⟩ := cellsX Hb.out.2; (try dsimp only at x0 x1 x2 x3 x4 x5 x6 x7 x8 x9 x10))
        | (go_at_call 37; (with_reducible refine (rlim_calls lm _).mono ?_); rintro e w_Hc ⟨rfl, hb⟩; rw [← HLB.out]; have Hc := Aside0.mk (And.intro (below_step Hb.out.1 hb) ((hb.block X (heap_lt Hb.out.2)).trans Hb.out.2)); clear hb x0 x1 x2 x3 x4 x5 x6 x7 x8 x9 x10; obtain ⟨x0, x1, x2, x3, x4, x5, x6, x7, x8, x9, x10⟩ := cellsX Hc.out.2; (try dsimp only at x0 x1 x2 x3 x4 x5 x6 x7 x8 x9 x10)))
      go_ret
      exact ⟨by rw [HV.out]; rfl, Hc.out.1⟩
    by_cases q2 : qu > 64
    · rw [if_pos (.inr (.inr (.inl q2)))] at hrr
      have HV := Aside0.mk (show rr = 183 from hrr)
      clear hrr
      unfold chg
      go_enter Try.func12, Try.ntmps12
      go_wp2_with (first
        | ((with_reducible refine gate_dst (N := 1) rfl ?_); refine box_event ?hg (N := 1) ?hd (cs := (chg ⟨0, tn, k, lm, qu, ri, rdr⟩).toArray) (t := 27) ?hr ?_; (case hd => rfl); (case hg => rfl); (case hr => first | (go_simp; done) | (go_simp; rfl)); intro X hX w1 hx1 hb1; have H1 := Aside0.mk (And.intro hb1 hx1); obtain ⟨x0, x1, x2, x3, x4, x5, x6, x7, x8, x9, x10⟩ := cellsX hx1; (try dsimp only at x0 x1 x2 x3 x4 x5 x6 x7 x8 x9 x10); clear hX hx1 hb1)
        | (go_at_call 34; (with_reducible refine (rtname_calls tn _).mono ?_); rintro e w_Ha ⟨rfl, hb⟩; rw [← HTB.out]; have Ha := Aside0.mk (And.intro (below_step H1.out.1 hb) ((hb.block X (heap_lt H1.out.2)).trans H1.out.2)); clear hb x0 x1 x2 x3 x4 x5 x6 x7 x8 x9 x10; obtain ⟨x0, x1, x2, x3, x4, x5, x6, x7, x8, x9, x10⟩ := cellsX Ha.out.2; (try dsimp only at x0 x1 x2 x3 x4 x5 x6 x7 x8 x9 x10))
        | (go_at_call 35; (with_reducible refine (rkey_calls k _).mono ?_); rintro e w_Hb ⟨rfl, hb⟩; rw [← HKB.out]; have Hb := Aside0.mk (And.intro (below_step Ha.out.1 hb) ((hb.block X (heap_lt Ha.out.2)).trans Ha.out.2)); clear hb x0 x1 x2 x3 x4 x5 x6 x7 x8 x9 x10; obtain ⟨x0, x1, x2, x3, x4, x5, x6, x7, x8, x9, x10⟩ := cellsX Hb.out.2; (try dsimp only at x0 x1 x2 x3 x4 x5 x6 x7 x8 x9 x10))
        | (go_at_call 37; (with_reducible refine (rlim_calls lm _).mono ?_); rintro e w_Hc ⟨rfl, hb⟩; rw [← HLB.out]; have Hc := Aside0.mk (And.intro (below_step Hb.out.1 hb) ((hb.block X (heap_lt Hb.out.2)).trans Hb.out.2)); clear hb x0 x1 x2 x3 x4 x5 x6 x7 x8 x9 x10; obtain ⟨x0, x1, x2, x3, x4, x5, x6, x7, x8, x9, x10⟩ := cellsX Hc.out.2; (try dsimp only at x0 x1 x2 x3 x4 x5 x6 x7 x8 x9 x10)))
      go_ret
      exact ⟨by rw [HV.out]; rfl, Hc.out.1⟩
    by_cases q3 : ri < 3
    · rw [if_pos (.inr (.inr (.inr (.inl q3))))] at hrr
      have HV := Aside0.mk (show rr = 183 from hrr)
      clear hrr
      unfold chg
      go_enter Try.func12, Try.ntmps12
      go_wp2_with (first
        | ((with_reducible refine gate_dst (N := 1) rfl ?_); refine box_event ?hg (N := 1) ?hd (cs := (chg ⟨0, tn, k, lm, qu, ri, rdr⟩).toArray) (t := 27) ?hr ?_; (case hd => rfl); (case hg => rfl); (case hr => first | (go_simp; done) | (go_simp; rfl)); intro X hX w1 hx1 hb1; have H1 := Aside0.mk (And.intro hb1 hx1); obtain ⟨x0, x1, x2, x3, x4, x5, x6, x7, x8, x9, x10⟩ := cellsX hx1; (try dsimp only at x0 x1 x2 x3 x4 x5 x6 x7 x8 x9 x10); clear hX hx1 hb1)
        | (go_at_call 34; (with_reducible refine (rtname_calls tn _).mono ?_); rintro e w_Ha ⟨rfl, hb⟩; rw [← HTB.out]; have Ha := Aside0.mk (And.intro (below_step H1.out.1 hb) ((hb.block X (heap_lt H1.out.2)).trans H1.out.2)); clear hb x0 x1 x2 x3 x4 x5 x6 x7 x8 x9 x10; obtain ⟨x0, x1, x2, x3, x4, x5, x6, x7, x8, x9, x10⟩ := cellsX Ha.out.2; (try dsimp only at x0 x1 x2 x3 x4 x5 x6 x7 x8 x9 x10))
        | (go_at_call 35; (with_reducible refine (rkey_calls k _).mono ?_); rintro e w_Hb ⟨rfl, hb⟩; rw [← HKB.out]; have Hb := Aside0.mk (And.intro (below_step Ha.out.1 hb) ((hb.block X (heap_lt Ha.out.2)).trans Ha.out.2)); clear hb x0 x1 x2 x3 x4 x5 x6 x7 x8 x9 x10; obtain ⟨x0, x1, x2, x3, x4, x5, x6, x7, x8, x9, x10⟩ := cellsX Hb.out.2; (try dsimp only at x0 x1 x2 x3 x4 x5 x6 x7 x8 x9 x10))
        | (go_at_call 37; (with_reducible refine (rlim_calls lm _).mono ?_); rintro e w_Hc ⟨rfl, hb⟩; rw [← HLB.out]; have Hc := Aside0.mk (And.intro (below_step Hb.out.1 hb) ((hb.block X (heap_lt Hb.out.2)).trans Hb.out.2)); clear hb x0 x1 x2 x3 x4 x5 x6 x7 x8 x9 x10; obtain ⟨x0, x1, x2, x3, x4, x5, x6, x7, x8, x9, x10⟩ := cellsX Hc.out.2; (try dsimp only at x0 x1 x2 x3 x4 x5 x6 x7 x8 x9 x10)))
      go_ret
      exact ⟨by rw [HV.out]; rfl, Hc.out.1⟩
    by_cases q4 : ri > 16
    · rw [if_pos (.inr (.inr (.inr (.inr q4))))] at hrr
      have HV := Aside0.mk (show rr = 183 from hrr)
      clear hrr
      unfold chg
      go_enter Try.func12, Try.ntmps12
      go_wp2_with (first
        | ((with_reducible refine gate_dst (N := 1) rfl ?_); refine box_event ?hg (N := 1) ?hd (cs := (chg ⟨0, tn, k, lm, qu, ri, rdr⟩).toArray) (t := 27) ?hr ?_; (case hd => rfl); (case hg => rfl); (case hr => first | (go_simp; done) | (go_simp; rfl)); intro X hX w1 hx1 hb1; have H1 := Aside0.mk (And.intro hb1 hx1); obtain ⟨x0, x1, x2, x3, x4, x5, x6, x7, x8, x9, x10⟩ := cellsX hx1; (try dsimp only at x0 x1 x2 x3 x4 x5 x6 x7 x8 x9 x10); clear hX hx1 hb1)
        | (go_at_call 34; (with_reducible refine (rtname_calls tn _).mono ?_); rintro e w_Ha ⟨rfl, hb⟩; rw [← HTB.out]; have Ha := Aside0.mk (And.intro (below_step H1.out.1 hb) ((hb.block X (heap_lt H1.out.2)).trans H1.out.2)); clear hb x0 x1 x2 x3 x4 x5 x6 x7 x8 x9 x10; obtain ⟨x0, x1, x2, x3, x4, x5, x6, x7, x8, x9, x10⟩ := cellsX Ha.out.2; (try dsimp only at x0 x1 x2 x3 x4 x5 x6 x7 x8 x9 x10))
        | (go_at_call 35; (with_reducible refine (rkey_calls k _).mono ?_); rintro e w_Hb ⟨rfl, hb⟩; rw [← HKB.out]; have Hb := Aside0.mk (And.intro (below_step Ha.out.1 hb) ((hb.block X (heap_lt Ha.out.2)).trans Ha.out.2)); clear hb x0 x1 x2 x3 x4 x5 x6 x7 x8 x9 x10; obtain ⟨x0, x1, x2, x3, x4, x5, x6, x7, x8, x9, x10⟩ := cellsX Hb.out.2; (try dsimp only at x0 x1 x2 x3 x4 x5 x6 x7 x8 x9 x10))
        | (go_at_call 37; (with_reducible refine (rlim_calls lm _).mono ?_); rintro e w_Hc ⟨rfl, hb⟩; rw [← HLB.out]; have Hc := Aside0.mk (And.intro (below_step Hb.out.1 hb) ((hb.block X (heap_lt Hb.out.2)).trans Hb.out.2)); clear hb x0 x1 x2 x3 x4 x5 x6 x7 x8 x9 x10; obtain ⟨x0, x1, x2, x3, x4, x5, x6, x7, x8, x9, x10⟩ := cellsX Hc.out.2; (try dsimp only at x0 x1 x2 x3 x4 x5 x6 x7 x8 x9 x10)))
      go_ret
      exact ⟨by rw [HV.out]; rfl, Hc.out.1⟩
    · rw [if_neg (by simp only [Bool.true_eq_false, false_or]; omega)] at hrr
      have HV := Aside0.mk (show rr = 0 from hrr)
      clear hrr
      unfold chg
      go_enter Try.func12, Try.ntmps12
      go_wp2_with (first
        | ((with_reducible refine gate_dst (N := 1) rfl ?_); refine box_event ?hg (N := 1) ?hd (cs := (chg ⟨0, tn, k, lm, qu, ri, rdr⟩).toArray) (t := 27) ?hr ?_; (case hd => rfl); (case hg => rfl); (case hr => first | (go_simp; done) | (go_simp; rfl)); intro X hX w1 hx1 hb1; have H1 := Aside0.mk (And.intro hb1 hx1); obtain ⟨x0, x1, x2, x3, x4, x5, x6, x7, x8, x9, x10⟩ := cellsX hx1; (try dsimp only at x0 x1 x2 x3 x4 x5 x6 x7 x8 x9 x10); clear hX hx1 hb1)
        | (go_at_call 34; (with_reducible refine (rtname_calls tn _).mono ?_); rintro e w_Ha ⟨rfl, hb⟩; rw [← HTB.out]; have Ha := Aside0.mk (And.intro (below_step H1.out.1 hb) ((hb.block X (heap_lt H1.out.2)).trans H1.out.2)); clear hb x0 x1 x2 x3 x4 x5 x6 x7 x8 x9 x10; obtain ⟨x0, x1, x2, x3, x4, x5, x6, x7, x8, x9, x10⟩ := cellsX Ha.out.2; (try dsimp only at x0 x1 x2 x3 x4 x5 x6 x7 x8 x9 x10))
        | (go_at_call 35; (with_reducible refine (rkey_calls k _).mono ?_); rintro e w_Hb ⟨rfl, hb⟩; rw [← HKB.out]; have Hb := Aside0.mk (And.intro (below_step Ha.out.1 hb) ((hb.block X (heap_lt Ha.out.2)).trans Ha.out.2)); clear hb x0 x1 x2 x3 x4 x5 x6 x7 x8 x9 x10; obtain ⟨x0, x1, x2, x3, x4, x5, x6, x7, x8, x9, x10⟩ := cellsX Hb.out.2; (try dsimp only at x0 x1 x2 x3 x4 x5 x6 x7 x8 x9 x10))
        | (go_at_call 37; (with_reducible refine (rlim_calls lm _).mono ?_); rintro e w_Hc ⟨rfl, hb⟩; rw [← HLB.out]; have Hc := Aside0.mk (And.intro (below_step Hb.out.1 hb) ((hb.block X (heap_lt Hb.out.2)).trans Hb.out.2)); clear hb x0 x1 x2 x3 x4 x5 x6 x7 x8 x9 x10; obtain ⟨x0, x1, x2, x3, x4, x5, x6, x7, x8, x9, x10⟩ := cellsX Hc.out.2; (try dsimp only at x0 x1 x2 x3 x4 x5 x6 x7 x8 x9 x10)))
      go_ret
      exact ⟨by rw [HV.out]; rfl, Hc.out.1⟩
  rw [if_neg d0] at hrr
  by_cases d1 : d = 1
  · subst d1
    clear h0 h5 d0
    rw [if_pos rfl] at hrr
    cases kb
    · rw [if_pos rfl] at hrr
      have HV := Aside0.mk (show rr = 181 from hrr)
      clear hrr
      unfold chg
      go_enter Try.func12, Try.ntmps12
      go_wp2_with (first
        | ((with_reducible refine gate_dst (N := 1) rfl ?_); refine box_event ?hg (N := 1) ?hd (cs := (chg ⟨1, tn, k, lm, qu, ri, rdr⟩).toArray) (t := 27) ?hr ?_; (case hd => rfl); (case hg => rfl); (case hr => first | (go_simp; done) | (go_simp; rfl)); intro X hX w1 hx1 hb1; have H1 := Aside0.mk (And.intro hb1 hx1); obtain ⟨x0, x1, x2, x3, x4, x5, x6, x7, x8, x9, x10⟩ := cellsX hx1; (try dsimp only at x0 x1 x2 x3 x4 x5 x6 x7 x8 x9 x10); clear hX hx1 hb1)
        | (go_at_call 34; (with_reducible refine (rtname_calls tn _).mono ?_); rintro e w_Ha ⟨rfl, hb⟩; rw [← HTB.out]; have Ha := Aside0.mk (And.intro (below_step H1.out.1 hb) ((hb.block X (heap_lt H1.out.2)).trans H1.out.2)); clear hb x0 x1 x2 x3 x4 x5 x6 x7 x8 x9 x10; obtain ⟨x0, x1, x2, x3, x4, x5, x6, x7, x8, x9, x10⟩ := cellsX Ha.out.2; (try dsimp only at x0 x1 x2 x3 x4 x5 x6 x7 x8 x9 x10))
        | (go_at_call 35; (with_reducible refine (rkey_calls k _).mono ?_); rintro e w_Hb ⟨rfl, hb⟩; rw [← HKB.out]; have Hb := Aside0.mk (And.intro (below_step Ha.out.1 hb) ((hb.block X (heap_lt Ha.out.2)).trans Ha.out.2)); clear hb x0 x1 x2 x3 x4 x5 x6 x7 x8 x9 x10; obtain ⟨x0, x1, x2, x3, x4, x5, x6, x7, x8, x9, x10⟩ := cellsX Hb.out.2; (try dsimp only at x0 x1 x2 x3 x4 x5 x6 x7 x8 x9 x10)))
      go_ret
      exact ⟨by rw [HV.out]; rfl, Hb.out.1⟩
    · rw [if_neg (show ¬ true = false by decide)] at hrr
      have HV := Aside0.mk (show rr = 0 from hrr)
      clear hrr
      unfold chg
      go_enter Try.func12, Try.ntmps12
      go_wp2_with (first
        | ((with_reducible refine gate_dst (N := 1) rfl ?_); refine box_event ?hg (N := 1) ?hd (cs := (chg ⟨1, tn, k, lm, qu, ri, rdr⟩).toArray) (t := 27) ?hr ?_; (case hd => rfl); (case hg => rfl); (case hr => first | (go_simp; done) | (go_simp; rfl)); intro X hX w1 hx1 hb1; have H1 := Aside0.mk (And.intro hb1 hx1); obtain ⟨x0, x1, x2, x3, x4, x5, x6, x7, x8, x9, x10⟩ := cellsX hx1; (try dsimp only at x0 x1 x2 x3 x4 x5 x6 x7 x8 x9 x10); clear hX hx1 hb1)
        | (go_at_call 34; (with_reducible refine (rtname_calls tn _).mono ?_); rintro e w_Ha ⟨rfl, hb⟩; rw [← HTB.out]; have Ha := Aside0.mk (And.intro (below_step H1.out.1 hb) ((hb.block X (heap_lt H1.out.2)).trans H1.out.2)); clear hb x0 x1 x2 x3 x4 x5 x6 x7 x8 x9 x10; obtain ⟨x0, x1, x2, x3, x4, x5, x6, x7, x8, x9, x10⟩ := cellsX Ha.out.2; (try dsimp only at x0 x1 x2 x3 x4 x5 x6 x7 x8 x9 x10))
        | (go_at_call 35; (with_reducible refine (rkey_calls k _).mono ?_); rintro e w_Hb ⟨rfl, hb⟩; rw [← HKB.out]; have Hb := Aside0.mk (And.intro (below_step Ha.out.1 hb) ((hb.block X (heap_lt Ha.out.2)).trans Ha.out.2)); clear hb x0 x1 x2 x3 x4 x5 x6 x7 x8 x9 x10; obtain ⟨x0, x1, x2, x3, x4, x5, x6, x7, x8, x9, x10⟩ := cellsX Hb.out.2; (try dsimp only at x0 x1 x2 x3 x4 x5 x6 x7 x8 x9 x10)))
      go_ret
      exact ⟨by rw [HV.out]; rfl, Hb.out.1⟩
  rw [if_neg d1] at hrr
  by_cases d2 : d = 2
  · subst d2
    clear h0 h5 d0 d1
    rw [if_pos rfl] at hrr
    by_cases q1 : 1 ≤ k.f0 ∧ k.f0 ≤ 99
    · rw [if_neg (by omega)] at hrr
      have HIB := Aside0.mk (show true = decide (1 ≤ k.f0 ∧ k.f0 ≤ 99) from (decide_eq_true q1).symm)
      clear q1
      have HV := Aside0.mk (show rr = 0 from hrr)
      clear hrr
      unfold chg
      go_enter Try.func12, Try.ntmps12
      go_wp2_with (first
        | ((with_reducible refine gate_dst (N := 1) rfl ?_); refine box_event ?hg (N := 1) ?hd (cs := (chg ⟨2, tn, k, lm, qu, ri, rdr⟩).toArray) (t := 27) ?hr ?_; (case hd => rfl); (case hg => rfl); (case hr => first | (go_simp; done) | (go_simp; rfl)); intro X hX w1 hx1 hb1; have H1 := Aside0.mk (And.intro hb1 hx1); obtain ⟨x0, x1, x2, x3, x4, x5, x6, x7, x8, x9, x10⟩ := cellsX hx1; (try dsimp only at x0 x1 x2 x3 x4 x5 x6 x7 x8 x9 x10); clear hX hx1 hb1)
        | (go_at_call 34; (with_reducible refine (rtname_calls tn _).mono ?_); rintro e w_Ha ⟨rfl, hb⟩; rw [← HTB.out]; have Ha := Aside0.mk (And.intro (below_step H1.out.1 hb) ((hb.block X (heap_lt H1.out.2)).trans H1.out.2)); clear hb x0 x1 x2 x3 x4 x5 x6 x7 x8 x9 x10; obtain ⟨x0, x1, x2, x3, x4, x5, x6, x7, x8, x9, x10⟩ := cellsX Ha.out.2; (try dsimp only at x0 x1 x2 x3 x4 x5 x6 x7 x8 x9 x10))
        | (go_at_call 36; (with_reducible refine (rid_calls k.f0 _).mono ?_); rintro e w_Hb ⟨rfl, hb⟩; rw [← HIB.out]; have Hb := Aside0.mk (And.intro (below_step Ha.out.1 hb) ((hb.block X (heap_lt Ha.out.2)).trans Ha.out.2)); clear hb x0 x1 x2 x3 x4 x5 x6 x7 x8 x9 x10; obtain ⟨x0, x1, x2, x3, x4, x5, x6, x7, x8, x9, x10⟩ := cellsX Hb.out.2; (try dsimp only at x0 x1 x2 x3 x4 x5 x6 x7 x8 x9 x10)))
      go_ret
      exact ⟨by rw [HV.out]; rfl, Hb.out.1⟩
    · rw [if_pos (by omega)] at hrr
      have HIB := Aside0.mk (show false = decide (1 ≤ k.f0 ∧ k.f0 ≤ 99) from (decide_eq_false q1).symm)
      clear q1
      have HV := Aside0.mk (show rr = 181 from hrr)
      clear hrr
      unfold chg
      go_enter Try.func12, Try.ntmps12
      go_wp2_with (first
        | ((with_reducible refine gate_dst (N := 1) rfl ?_); refine box_event ?hg (N := 1) ?hd (cs := (chg ⟨2, tn, k, lm, qu, ri, rdr⟩).toArray) (t := 27) ?hr ?_; (case hd => rfl); (case hg => rfl); (case hr => first | (go_simp; done) | (go_simp; rfl)); intro X hX w1 hx1 hb1; have H1 := Aside0.mk (And.intro hb1 hx1); obtain ⟨x0, x1, x2, x3, x4, x5, x6, x7, x8, x9, x10⟩ := cellsX hx1; (try dsimp only at x0 x1 x2 x3 x4 x5 x6 x7 x8 x9 x10); clear hX hx1 hb1)
        | (go_at_call 34; (with_reducible refine (rtname_calls tn _).mono ?_); rintro e w_Ha ⟨rfl, hb⟩; rw [← HTB.out]; have Ha := Aside0.mk (And.intro (below_step H1.out.1 hb) ((hb.block X (heap_lt H1.out.2)).trans H1.out.2)); clear hb x0 x1 x2 x3 x4 x5 x6 x7 x8 x9 x10; obtain ⟨x0, x1, x2, x3, x4, x5, x6, x7, x8, x9, x10⟩ := cellsX Ha.out.2; (try dsimp only at x0 x1 x2 x3 x4 x5 x6 x7 x8 x9 x10))
        | (go_at_call 36; (with_reducible refine (rid_calls k.f0 _).mono ?_); rintro e w_Hb ⟨rfl, hb⟩; rw [← HIB.out]; have Hb := Aside0.mk (And.intro (below_step Ha.out.1 hb) ((hb.block X (heap_lt Ha.out.2)).trans Ha.out.2)); clear hb x0 x1 x2 x3 x4 x5 x6 x7 x8 x9 x10; obtain ⟨x0, x1, x2, x3, x4, x5, x6, x7, x8, x9, x10⟩ := cellsX Hb.out.2; (try dsimp only at x0 x1 x2 x3 x4 x5 x6 x7 x8 x9 x10)))
      go_ret
      exact ⟨by rw [HV.out]; rfl, Hb.out.1⟩
  rw [if_neg d2] at hrr
  by_cases d3 : d = 3
  · subst d3
    clear h0 h5 d0 d1 d2
    rw [if_pos rfl] at hrr
    cases lb
    · rw [if_pos rfl] at hrr
      have HV := Aside0.mk (show rr = 183 from hrr)
      clear hrr
      unfold chg
      go_enter Try.func12, Try.ntmps12
      go_wp2_with (first
        | ((with_reducible refine gate_dst (N := 1) rfl ?_); refine box_event ?hg (N := 1) ?hd (cs := (chg ⟨3, tn, k, lm, qu, ri, rdr⟩).toArray) (t := 27) ?hr ?_; (case hd => rfl); (case hg => rfl); (case hr => first | (go_simp; done) | (go_simp; rfl)); intro X hX w1 hx1 hb1; have H1 := Aside0.mk (And.intro hb1 hx1); obtain ⟨x0, x1, x2, x3, x4, x5, x6, x7, x8, x9, x10⟩ := cellsX hx1; (try dsimp only at x0 x1 x2 x3 x4 x5 x6 x7 x8 x9 x10); clear hX hx1 hb1)
        | (go_at_call 34; (with_reducible refine (rtname_calls tn _).mono ?_); rintro e w_Ha ⟨rfl, hb⟩; rw [← HTB.out]; have Ha := Aside0.mk (And.intro (below_step H1.out.1 hb) ((hb.block X (heap_lt H1.out.2)).trans H1.out.2)); clear hb x0 x1 x2 x3 x4 x5 x6 x7 x8 x9 x10; obtain ⟨x0, x1, x2, x3, x4, x5, x6, x7, x8, x9, x10⟩ := cellsX Ha.out.2; (try dsimp only at x0 x1 x2 x3 x4 x5 x6 x7 x8 x9 x10))
        | (go_at_call 37; (with_reducible refine (rlim_calls lm _).mono ?_); rintro e w_Hc ⟨rfl, hb⟩; rw [← HLB.out]; have Hc := Aside0.mk (And.intro (below_step Ha.out.1 hb) ((hb.block X (heap_lt Ha.out.2)).trans Ha.out.2)); clear hb x0 x1 x2 x3 x4 x5 x6 x7 x8 x9 x10; obtain ⟨x0, x1, x2, x3, x4, x5, x6, x7, x8, x9, x10⟩ := cellsX Hc.out.2; (try dsimp only at x0 x1 x2 x3 x4 x5 x6 x7 x8 x9 x10)))
      go_ret
      exact ⟨by rw [HV.out]; rfl, Hc.out.1⟩
    · rw [if_neg (show ¬ true = false by decide)] at hrr
      have HV := Aside0.mk (show rr = 0 from hrr)
      clear hrr
      unfold chg
      go_enter Try.func12, Try.ntmps12
      go_wp2_with (first
        | ((with_reducible refine gate_dst (N := 1) rfl ?_); refine box_event ?hg (N := 1) ?hd (cs := (chg ⟨3, tn, k, lm, qu, ri, rdr⟩).toArray) (t := 27) ?hr ?_; (case hd => rfl); (case hg => rfl); (case hr => first | (go_simp; done) | (go_simp; rfl)); intro X hX w1 hx1 hb1; have H1 := Aside0.mk (And.intro hb1 hx1); obtain ⟨x0, x1, x2, x3, x4, x5, x6, x7, x8, x9, x10⟩ := cellsX hx1; (try dsimp only at x0 x1 x2 x3 x4 x5 x6 x7 x8 x9 x10); clear hX hx1 hb1)
        | (go_at_call 34; (with_reducible refine (rtname_calls tn _).mono ?_); rintro e w_Ha ⟨rfl, hb⟩; rw [← HTB.out]; have Ha := Aside0.mk (And.intro (below_step H1.out.1 hb) ((hb.block X (heap_lt H1.out.2)).trans H1.out.2)); clear hb x0 x1 x2 x3 x4 x5 x6 x7 x8 x9 x10; obtain ⟨x0, x1, x2, x3, x4, x5, x6, x7, x8, x9, x10⟩ := cellsX Ha.out.2; (try dsimp only at x0 x1 x2 x3 x4 x5 x6 x7 x8 x9 x10))
        | (go_at_call 37; (with_reducible refine (rlim_calls lm _).mono ?_); rintro e w_Hc ⟨rfl, hb⟩; rw [← HLB.out]; have Hc := Aside0.mk (And.intro (below_step Ha.out.1 hb) ((hb.block X (heap_lt Ha.out.2)).trans Ha.out.2)); clear hb x0 x1 x2 x3 x4 x5 x6 x7 x8 x9 x10; obtain ⟨x0, x1, x2, x3, x4, x5, x6, x7, x8, x9, x10⟩ := cellsX Hc.out.2; (try dsimp only at x0 x1 x2 x3 x4 x5 x6 x7 x8 x9 x10)))
      go_ret
      exact ⟨by rw [HV.out]; rfl, Hc.out.1⟩
  rw [if_neg d3] at hrr
  have hd : d = 4 ∨ d = 5 := by omega
  clear h0 h5 d0 d1 d2 d3
  rcases hd with rfl | rfl
  · cases ub
    · rw [if_pos rfl] at hrr
      have HV := Aside0.mk (show rr = 50 from hrr)
      clear hrr
      unfold chg
      go_enter Try.func12, Try.ntmps12
      go_wp2_with (first
        | ((with_reducible refine gate_dst (N := 1) rfl ?_); refine box_event ?hg (N := 1) ?hd (cs := (chg ⟨4, tn, k, lm, qu, ri, rdr⟩).toArray) (t := 27) ?hr ?_; (case hd => rfl); (case hg => rfl); (case hr => first | (go_simp; done) | (go_simp; rfl)); intro X hX w1 hx1 hb1; have H1 := Aside0.mk (And.intro hb1 hx1); obtain ⟨x0, x1, x2, x3, x4, x5, x6, x7, x8, x9, x10⟩ := cellsX hx1; (try dsimp only at x0 x1 x2 x3 x4 x5 x6 x7 x8 x9 x10); clear hX hx1 hb1)
        | (go_at_call 34; have hmark := Ha.out; (with_reducible refine (rtname_calls rdr _).mono ?_); rintro e w_Hd ⟨rfl, hb⟩; rw [← HUB.out]; have Hd := Aside0.mk (And.intro (below_step Ha.out.1 hb) ((hb.block X (heap_lt Ha.out.2)).trans Ha.out.2)); clear hb hmark x0 x1 x2 x3 x4 x5 x6 x7 x8 x9 x10; obtain ⟨x0, x1, x2, x3, x4, x5, x6, x7, x8, x9, x10⟩ := cellsX Hd.out.2; (try dsimp only at x0 x1 x2 x3 x4 x5 x6 x7 x8 x9 x10))
        | (go_at_call 34; (with_reducible refine (rtname_calls tn _).mono ?_); rintro e w_Ha ⟨rfl, hb⟩; rw [← HTB.out]; have Ha := Aside0.mk (And.intro (below_step H1.out.1 hb) ((hb.block X (heap_lt H1.out.2)).trans H1.out.2)); clear hb x0 x1 x2 x3 x4 x5 x6 x7 x8 x9 x10; obtain ⟨x0, x1, x2, x3, x4, x5, x6, x7, x8, x9, x10⟩ := cellsX Ha.out.2; (try dsimp only at x0 x1 x2 x3 x4 x5 x6 x7 x8 x9 x10)))
      go_ret
      exact ⟨by rw [HV.out]; rfl, Hd.out.1⟩
    rw [if_neg (show ¬ true = false by decide)] at hrr
    by_cases e : rdr = tn
    · rw [if_pos e] at hrr
      have heq : (rdr.toList == tn.toList) = true := by rw [e]; simp
      clear e
      have HV := Aside0.mk (show rr = 182 from hrr)
      clear hrr
      unfold chg
      go_enter Try.func12, Try.ntmps12
      go_wp2_with (first
        | ((with_reducible refine gate_dst (N := 1) rfl ?_); refine box_event ?hg (N := 1) ?hd (cs := (chg ⟨4, tn, k, lm, qu, ri, rdr⟩).toArray) (t := 27) ?hr ?_; (case hd => rfl); (case hg => rfl); (case hr => first | (go_simp; done) | (go_simp; rfl)); intro X hX w1 hx1 hb1; have H1 := Aside0.mk (And.intro hb1 hx1); obtain ⟨x0, x1, x2, x3, x4, x5, x6, x7, x8, x9, x10⟩ := cellsX hx1; (try dsimp only at x0 x1 x2 x3 x4 x5 x6 x7 x8 x9 x10); clear hX hx1 hb1)
        | (go_at_call 34; have hmark := Ha.out; (with_reducible refine (rtname_calls rdr _).mono ?_); rintro e w_Hd ⟨rfl, hb⟩; rw [← HUB.out]; have Hd := Aside0.mk (And.intro (below_step Ha.out.1 hb) ((hb.block X (heap_lt Ha.out.2)).trans Ha.out.2)); clear hb hmark x0 x1 x2 x3 x4 x5 x6 x7 x8 x9 x10; obtain ⟨x0, x1, x2, x3, x4, x5, x6, x7, x8, x9, x10⟩ := cellsX Hd.out.2; (try dsimp only at x0 x1 x2 x3 x4 x5 x6 x7 x8 x9 x10))
        | (go_at_call 34; (with_reducible refine (rtname_calls tn _).mono ?_); rintro e w_Ha ⟨rfl, hb⟩; rw [← HTB.out]; have Ha := Aside0.mk (And.intro (below_step H1.out.1 hb) ((hb.block X (heap_lt H1.out.2)).trans H1.out.2)); clear hb x0 x1 x2 x3 x4 x5 x6 x7 x8 x9 x10; obtain ⟨x0, x1, x2, x3, x4, x5, x6, x7, x8, x9, x10⟩ := cellsX Ha.out.2; (try dsimp only at x0 x1 x2 x3 x4 x5 x6 x7 x8 x9 x10)))
      go_ret
      exact ⟨by rw [HV.out]; rfl, Hd.out.1⟩
    · rw [if_neg e] at hrr
      have hne : (rdr.toList == tn.toList) = false := beq_false_of_ne (str_beq e)
      clear e
      have HV := Aside0.mk (show rr = 0 from hrr)
      clear hrr
      unfold chg
      go_enter Try.func12, Try.ntmps12
      go_wp2_with (first
        | ((with_reducible refine gate_dst (N := 1) rfl ?_); refine box_event ?hg (N := 1) ?hd (cs := (chg ⟨4, tn, k, lm, qu, ri, rdr⟩).toArray) (t := 27) ?hr ?_; (case hd => rfl); (case hg => rfl); (case hr => first | (go_simp; done) | (go_simp; rfl)); intro X hX w1 hx1 hb1; have H1 := Aside0.mk (And.intro hb1 hx1); obtain ⟨x0, x1, x2, x3, x4, x5, x6, x7, x8, x9, x10⟩ := cellsX hx1; (try dsimp only at x0 x1 x2 x3 x4 x5 x6 x7 x8 x9 x10); clear hX hx1 hb1)
        | (go_at_call 34; have hmark := Ha.out; (with_reducible refine (rtname_calls rdr _).mono ?_); rintro e w_Hd ⟨rfl, hb⟩; rw [← HUB.out]; have Hd := Aside0.mk (And.intro (below_step Ha.out.1 hb) ((hb.block X (heap_lt Ha.out.2)).trans Ha.out.2)); clear hb hmark x0 x1 x2 x3 x4 x5 x6 x7 x8 x9 x10; obtain ⟨x0, x1, x2, x3, x4, x5, x6, x7, x8, x9, x10⟩ := cellsX Hd.out.2; (try dsimp only at x0 x1 x2 x3 x4 x5 x6 x7 x8 x9 x10))
        | (go_at_call 34; (with_reducible refine (rtname_calls tn _).mono ?_); rintro e w_Ha ⟨rfl, hb⟩; rw [← HTB.out]; have Ha := Aside0.mk (And.intro (below_step H1.out.1 hb) ((hb.block X (heap_lt H1.out.2)).trans H1.out.2)); clear hb x0 x1 x2 x3 x4 x5 x6 x7 x8 x9 x10; obtain ⟨x0, x1, x2, x3, x4, x5, x6, x7, x8, x9, x10⟩ := cellsX Ha.out.2; (try dsimp only at x0 x1 x2 x3 x4 x5 x6 x7 x8 x9 x10)))
      go_ret
      exact ⟨by rw [HV.out]; rfl, Hd.out.1⟩
  · cases ub
    · rw [if_pos rfl] at hrr
      have HV := Aside0.mk (show rr = 50 from hrr)
      clear hrr
      unfold chg
      go_enter Try.func12, Try.ntmps12
      go_wp2_with (first
        | ((with_reducible refine gate_dst (N := 1) rfl ?_); refine box_event ?hg (N := 1) ?hd (cs := (chg ⟨5, tn, k, lm, qu, ri, rdr⟩).toArray) (t := 27) ?hr ?_; (case hd => rfl); (case hg => rfl); (case hr => first | (go_simp; done) | (go_simp; rfl)); intro X hX w1 hx1 hb1; have H1 := Aside0.mk (And.intro hb1 hx1); obtain ⟨x0, x1, x2, x3, x4, x5, x6, x7, x8, x9, x10⟩ := cellsX hx1; (try dsimp only at x0 x1 x2 x3 x4 x5 x6 x7 x8 x9 x10); clear hX hx1 hb1)
        | (go_at_call 34; have hmark := Ha.out; (with_reducible refine (rtname_calls rdr _).mono ?_); rintro e w_Hd ⟨rfl, hb⟩; rw [← HUB.out]; have Hd := Aside0.mk (And.intro (below_step Ha.out.1 hb) ((hb.block X (heap_lt Ha.out.2)).trans Ha.out.2)); clear hb hmark x0 x1 x2 x3 x4 x5 x6 x7 x8 x9 x10; obtain ⟨x0, x1, x2, x3, x4, x5, x6, x7, x8, x9, x10⟩ := cellsX Hd.out.2; (try dsimp only at x0 x1 x2 x3 x4 x5 x6 x7 x8 x9 x10))
        | (go_at_call 34; (with_reducible refine (rtname_calls tn _).mono ?_); rintro e w_Ha ⟨rfl, hb⟩; rw [← HTB.out]; have Ha := Aside0.mk (And.intro (below_step H1.out.1 hb) ((hb.block X (heap_lt H1.out.2)).trans H1.out.2)); clear hb x0 x1 x2 x3 x4 x5 x6 x7 x8 x9 x10; obtain ⟨x0, x1, x2, x3, x4, x5, x6, x7, x8, x9, x10⟩ := cellsX Ha.out.2; (try dsimp only at x0 x1 x2 x3 x4 x5 x6 x7 x8 x9 x10)))
      go_ret
      exact ⟨by rw [HV.out]; rfl, Hd.out.1⟩
    rw [if_neg (show ¬ true = false by decide)] at hrr
    by_cases e : rdr = tn
    · rw [if_pos e] at hrr
      have heq : (rdr.toList == tn.toList) = true := by rw [e]; simp
      clear e
      have HV := Aside0.mk (show rr = 182 from hrr)
      clear hrr
      unfold chg
      go_enter Try.func12, Try.ntmps12
      go_wp2_with (first
        | ((with_reducible refine gate_dst (N := 1) rfl ?_); refine box_event ?hg (N := 1) ?hd (cs := (chg ⟨5, tn, k, lm, qu, ri, rdr⟩).toArray) (t := 27) ?hr ?_; (case hd => rfl); (case hg => rfl); (case hr => first | (go_simp; done) | (go_simp; rfl)); intro X hX w1 hx1 hb1; have H1 := Aside0.mk (And.intro hb1 hx1); obtain ⟨x0, x1, x2, x3, x4, x5, x6, x7, x8, x9, x10⟩ := cellsX hx1; (try dsimp only at x0 x1 x2 x3 x4 x5 x6 x7 x8 x9 x10); clear hX hx1 hb1)
        | (go_at_call 34; have hmark := Ha.out; (with_reducible refine (rtname_calls rdr _).mono ?_); rintro e w_Hd ⟨rfl, hb⟩; rw [← HUB.out]; have Hd := Aside0.mk (And.intro (below_step Ha.out.1 hb) ((hb.block X (heap_lt Ha.out.2)).trans Ha.out.2)); clear hb hmark x0 x1 x2 x3 x4 x5 x6 x7 x8 x9 x10; obtain ⟨x0, x1, x2, x3, x4, x5, x6, x7, x8, x9, x10⟩ := cellsX Hd.out.2; (try dsimp only at x0 x1 x2 x3 x4 x5 x6 x7 x8 x9 x10))
        | (go_at_call 34; (with_reducible refine (rtname_calls tn _).mono ?_); rintro e w_Ha ⟨rfl, hb⟩; rw [← HTB.out]; have Ha := Aside0.mk (And.intro (below_step H1.out.1 hb) ((hb.block X (heap_lt H1.out.2)).trans H1.out.2)); clear hb x0 x1 x2 x3 x4 x5 x6 x7 x8 x9 x10; obtain ⟨x0, x1, x2, x3, x4, x5, x6, x7, x8, x9, x10⟩ := cellsX Ha.out.2; (try dsimp only at x0 x1 x2 x3 x4 x5 x6 x7 x8 x9 x10)))
      go_ret
      exact ⟨by rw [HV.out]; rfl, Hd.out.1⟩
    · rw [if_neg e] at hrr
      have hne : (rdr.toList == tn.toList) = false := beq_false_of_ne (str_beq e)
      clear e
      have HV := Aside0.mk (show rr = 0 from hrr)
      clear hrr
      unfold chg
      go_enter Try.func12, Try.ntmps12
      go_wp2_with (first
        | ((with_reducible refine gate_dst (N := 1) rfl ?_); refine box_event ?hg (N := 1) ?hd (cs := (chg ⟨5, tn, k, lm, qu, ri, rdr⟩).toArray) (t := 27) ?hr ?_; (case hd => rfl); (case hg => rfl); (case hr => first | (go_simp; done) | (go_simp; rfl)); intro X hX w1 hx1 hb1; have H1 := Aside0.mk (And.intro hb1 hx1); obtain ⟨x0, x1, x2, x3, x4, x5, x6, x7, x8, x9, x10⟩ := cellsX hx1; (try dsimp only at x0 x1 x2 x3 x4 x5 x6 x7 x8 x9 x10); clear hX hx1 hb1)
        | (go_at_call 34; have hmark := Ha.out; (with_reducible refine (rtname_calls rdr _).mono ?_); rintro e w_Hd ⟨rfl, hb⟩; rw [← HUB.out]; have Hd := Aside0.mk (And.intro (below_step Ha.out.1 hb) ((hb.block X (heap_lt Ha.out.2)).trans Ha.out.2)); clear hb hmark x0 x1 x2 x3 x4 x5 x6 x7 x8 x9 x10; obtain ⟨x0, x1, x2, x3, x4, x5, x6, x7, x8, x9, x10⟩ := cellsX Hd.out.2; (try dsimp only at x0 x1 x2 x3 x4 x5 x6 x7 x8 x9 x10))
        | (go_at_call 34; (with_reducible refine (rtname_calls tn _).mono ?_); rintro e w_Ha ⟨rfl, hb⟩; rw [← HTB.out]; have Ha := Aside0.mk (And.intro (below_step H1.out.1 hb) ((hb.block X (heap_lt H1.out.2)).trans H1.out.2)); clear hb x0 x1 x2 x3 x4 x5 x6 x7 x8 x9 x10; obtain ⟨x0, x1, x2, x3, x4, x5, x6, x7, x8, x9, x10⟩ := cellsX Ha.out.2; (try dsimp only at x0 x1 x2 x3 x4 x5 x6 x7 x8 x9 x10)))
      go_ret
      exact ⟨by rw [HV.out]; rfl, Hd.out.1⟩
end Go.Proofs.Yticoaaddhhiglaa.T
