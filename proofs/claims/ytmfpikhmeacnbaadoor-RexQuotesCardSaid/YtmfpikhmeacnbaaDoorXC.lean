import Derived.Test.YtmfpikhmeacnbaaDoorX5
/- Patterns by hand: how long what is parsed is; group, atom (mkX6.py). -/
namespace Go.Proofs.YtmfpikhmeacnbaaDoor.X
open Go.RowKit Go.Proofs.YtmfpikhmeacnbaaDoor.Q Go.Proofs.YtmfpikhmeacnbaaDoorW.PrintWords Go.Proofs.YtmfpikhmeacnbaaDoorW.PrintLast Go.Proofs.YtmfpikhmeacnbaaDoorW.PrintMore
set_option linter.unusedVariables false
set_option linter.unusedSimpArgs false
theorem cls_long {s : ByteArray} {RL : Res (List S86)} : ∀ {k i : Nat} {acc : List S86} {first : Bool} {l : List S86} {j : Nat}, clsL k s i acc first = some (.ok l j) → i ≤ j
  | 0, _, _, _, _, _, h => by simp [clsL] at h
  | k + 1, i, acc, first, l, j, h => by
    rcases clsL_head h with ⟨_, hB⟩ | ⟨_, c, _, _, hB⟩ | ⟨_, _, h⟩ | ⟨_, _, h⟩
    rotate_left 2
    · cases h
    · injection h with h1 h2; omega
    all_goals
      rcases hB with ⟨a1, e1, hm, h⟩ | ⟨l, j, hm, hN⟩ | ⟨l, j, hm, hp2, h⟩ | ⟨l, j, c2, hm, hp2, h45, hN⟩ | ⟨l, j, a1, e1, hm, hp2, hu, h⟩ | ⟨l, j, hi, j2, hm, hp2, hu, hN⟩
      · cases h
      · have h1 := cls_long (RL := RL) hN; have h2 := (mem_len hm).2; omega
      · cases h
      · have h1 := cls_long (RL := RL) hN; have h2 := (mem_len hm).2; omega
      · cases h
      · have h1 := cls_long (RL := RL) hN; have h2 := (mem_len hm).2; have h3 := up_len hu; omega
theorem clsF_long {s : ByteArray} {k i m j : Nat} {p : Pt} (h : clsF k s i = some (.ok (p, m) j)) : i + m ≤ j ∧ i + 1 ≤ j := by
  unfold clsF at h
  cases hp : peekF s i with
  | none => rw [hp] at h; cases h
  | some c =>
    rw [hp] at h
    dsimp only at h
    cases hL : clsL k s (if c = 94 then i + 1 else i) [] true with
    | none => rw [hL] at h; cases h
    | some RL =>
      rw [hL] at h
      cases RL with
      | bad a e => cases h
      | ok l j1 =>
        have h1 := cls_long (RL := .bad 0 0) hL
        have h2 : (if c = 94 then i + 1 else i) ≥ i := by split <;> omega
        have h3 := Option.some.inj h
        injection h3 with h4 h5
        injection h4 with h4 h6
        omega
def grF (k : Nat) (s : ByteArray) (d i : Nat) : Option (Res (Pt × Nat)) :=
  if 20 ≤ d then some (.bad i 60) else
  match paF k s (d + 1) (i + 1) with
  | none => none
  | some (.bad a e) => some (.bad a e)
  | some (.ok (p, m) j) => match peekF s j with
    | none => some (.bad j 8)
    | some c => if c = 41 then some (.ok (p, m) (j + 1)) else some (.bad j 8)
/-- The ways of an atom. -/
def AtB (k : Nat) (s : ByteArray) (d i : Nat) (R : Res (Pt × Nat)) : Prop :=
  (peekF s i = none ∧ R = .bad i 8) ∨
  (peekF s i = some 40 ∧ grF k s d i = some R) ∨
  (peekF s i = some 91 ∧ clsF k s (i + 1) = some R) ∨
  (peekF s i = some 46 ∧ R = .ok (.one [] true false, 1) (i + 1)) ∨
  (peekF s i = some 92 ∧ ∃ a e, escF s (i + 1) = .bad a e ∧ R = .bad a e) ∨
  (peekF s i = some 92 ∧ ∃ l sg j, escF s (i + 1) = .ok (l, sg) j ∧ R = .ok (.one l false sg, 1) j) ∨
  (∃ c, peekF s i = some c ∧ (c == 40) = false ∧ (c == 91) = false ∧ (c == 46) = false ∧ (c == 92) = false ∧ (special c = true ∨ c < 0) ∧ R = .bad i 8) ∨
  (∃ c, peekF s i = some c ∧ (c == 40) = false ∧ (c == 91) = false ∧ (c == 46) = false ∧ (c == 92) = false ∧ special c = false ∧ ¬ c < 0 ∧ R = .ok (.one [⟨c, c⟩] false true, 1) (i + rl c))
theorem atF_head {k : Nat} {s : ByteArray} {d i : Nat} {R : Res (Pt × Nat)} (h : atF (k + 1) s d i = some R) : AtB k s d i R := by
  rw [atF] at h
  unfold AtB
  cases hp : peekF s i with
  | none => rw [hp] at h; exact .inl ⟨rfl, (Option.some.inj h).symm⟩
  | some c =>
    rw [hp] at h
    dsimp only at h
    by_cases e1 : c = 40
    · rw [if_pos e1] at h
      exact .inr (.inl ⟨by rw [e1], h⟩)
    rw [if_neg e1] at h
    by_cases e2 : c = 91
    · rw [if_pos e2] at h
      exact .inr (.inr (.inl ⟨by rw [e2], h⟩))
    rw [if_neg e2] at h
    by_cases e3 : c = 46
    · rw [if_pos e3] at h
      exact .inr (.inr (.inr (.inl ⟨by rw [e3], (Option.some.inj h).symm⟩)))
    rw [if_neg e3] at h
    by_cases e4 : c = 92
    · rw [if_pos e4] at h
      cases he : escF s (i + 1) with
      | bad a e => rw [he] at h; exact .inr (.inr (.inr (.inr (.inl ⟨by rw [e4], a, e, rfl, (Option.some.inj h).symm⟩))))
      | ok lm j =>
        obtain ⟨l, sg⟩ := lm
        rw [he] at h
        exact .inr (.inr (.inr (.inr (.inr (.inl ⟨by rw [e4], l, sg, j, rfl, (Option.some.inj h).symm⟩)))))
    rw [if_neg e4] at h
    have f1 := beq_eq_false_iff_ne.2 e1
    have f2 := beq_eq_false_iff_ne.2 e2
    have f3 := beq_eq_false_iff_ne.2 e3
    have f4 := beq_eq_false_iff_ne.2 e4
    by_cases e5 : special c = true ∨ c < 0
    · rw [if_pos e5] at h
      exact .inr (.inr (.inr (.inr (.inr (.inr (.inl ⟨c, rfl, f1, f2, f3, f4, e5, (Option.some.inj h).symm⟩))))))
    · rw [if_neg e5] at h
      exact .inr (.inr (.inr (.inr (.inr (.inr (.inr ⟨c, rfl, f1, f2, f3, f4, by cases hs : special c; rfl; exact absurd (.inl hs) e5, fun h => e5 (.inr h), (Option.some.inj h).symm⟩))))))
/-- The ways of a round of branch, where c stands next. -/
def BrB (k : Nat) (s : ByteArray) (d i : Nat) (acc : Pt) (n : Nat) (c : Int) (R : Res (Pt × Nat)) : Prop :=
  ((c < 0 ∨ c = 124 ∨ c = 41) ∧ R = .ok (acc, n) i) ∨
  ((¬ c < 0 ∧ c ≠ 124 ∧ c ≠ 41) ∧ (
    (∃ a e, atF k s d i = some (.bad a e) ∧ R = .bad a e) ∨
    (∃ p m j, atF k s d i = some (.ok (p, m) j) ∧ peekF s j = none ∧ R = .bad j 8) ∨
    (∃ p m j c2, atF k s d i = some (.ok (p, m) j) ∧ peekF s j = some c2 ∧ (c2 = 42 ∨ c2 = 43 ∨ c2 = 63) ∧ brF k s d (j + 1) (.cat acc (.again p c2)) (n + m) = some R) ∨
    (∃ p m j c2, atF k s d i = some (.ok (p, m) j) ∧ peekF s j = some c2 ∧ ((c2 == 42) = false ∧ (c2 == 43) = false ∧ (c2 == 63) = false) ∧ brF k s d j (.cat acc p) (n + m) = some R)))
theorem brF_head {k : Nat} {s : ByteArray} {d i n : Nat} {acc : Pt} {R : Res (Pt × Nat)} (h : brF (k + 1) s d i acc n = some R) : (peekF s i = none ∧ R = .bad i 8) ∨ (∃ c, peekF s i = some c ∧ BrB k s d i acc n c R) := by
  rw [brF] at h
  unfold BrB
  cases hp : peekF s i with
  | none => rw [hp] at h; exact .inl ⟨rfl, (Option.some.inj h).symm⟩
  | some c =>
    rw [hp] at h
    dsimp only at h
    refine .inr ⟨c, rfl, ?_⟩
    by_cases e1 : c < 0 ∨ c = 124 ∨ c = 41
    · rw [if_pos e1] at h
      exact .inl ⟨e1, (Option.some.inj h).symm⟩
    rw [if_neg e1] at h
    refine .inr ⟨⟨fun h => e1 (.inl h), fun h => e1 (.inr (.inl h)), fun h => e1 (.inr (.inr h))⟩, ?_⟩
    cases ha : atF k s d i with
    | none => rw [ha] at h; cases h
    | some RA =>
      rw [ha] at h
      cases RA with
      | bad a e => exact .inl ⟨a, e, rfl, (Option.some.inj h).symm⟩
      | ok pm j =>
        obtain ⟨p, m⟩ := pm
        dsimp only at h
        cases hp2 : peekF s j with
        | none => rw [hp2] at h; exact .inr (.inl ⟨p, m, j, rfl, hp2, (Option.some.inj h).symm⟩)
        | some c2 =>
          rw [hp2] at h
          dsimp only at h
          by_cases e2 : c2 = 42 ∨ c2 = 43 ∨ c2 = 63
          · rw [if_pos e2] at h
            exact .inr (.inr (.inl ⟨p, m, j, c2, rfl, hp2, e2, h⟩))
          · rw [if_neg e2] at h
            exact .inr (.inr (.inr ⟨p, m, j, c2, rfl, hp2, ⟨beq_eq_false_iff_ne.2 fun e => e2 (.inl e), beq_eq_false_iff_ne.2 fun e => e2 (.inr (.inl e)), beq_eq_false_iff_ne.2 fun e => e2 (.inr (.inr e))⟩, h⟩))
/-- The ways of a round of pattern. -/
def AlB (k : Nat) (s : ByteArray) (d i : Nat) (acc : Pt) (n : Nat) (R : Res (Pt × Nat)) : Prop :=
  (peekF s i = none ∧ R = .bad i 8) ∨
  (∃ c, peekF s i = some c ∧ (c == 124) = false ∧ R = .ok (acc, n) i) ∨
  (peekF s i = some 124 ∧ ∃ a e, brF k s d (i + 1) .eps 0 = some (.bad a e) ∧ R = .bad a e) ∨
  (peekF s i = some 124 ∧ ∃ p m j, brF k s d (i + 1) .eps 0 = some (.ok (p, m) j) ∧ altF k s d j (.alt acc p) (n + m) = some R)
theorem altF_head {k : Nat} {s : ByteArray} {d i n : Nat} {acc : Pt} {R : Res (Pt × Nat)} (h : altF (k + 1) s d i acc n = some R) : AlB k s d i acc n R := by
  rw [altF] at h
  unfold AlB
  cases hp : peekF s i with
  | none => rw [hp] at h; exact .inl ⟨rfl, (Option.some.inj h).symm⟩
  | some c =>
    rw [hp] at h
    dsimp only at h
    by_cases e1 : c = 124
    · rw [if_pos e1] at h
      cases hb : brF k s d (i + 1) .eps 0 with
      | none => rw [hb] at h; cases h
      | some RB =>
        rw [hb] at h
        cases RB with
        | bad a e => exact .inr (.inr (.inl ⟨by rw [e1], a, e, rfl, (Option.some.inj h).symm⟩))
        | ok pm j => exact .inr (.inr (.inr ⟨by rw [e1], pm.1, pm.2, j, rfl, h⟩))
    · rw [if_neg e1] at h
      exact .inr (.inl ⟨c, rfl, beq_eq_false_iff_ne.2 e1, (Option.some.inj h).symm⟩)
theorem paF_head {k : Nat} {s : ByteArray} {d i : Nat} {R : Res (Pt × Nat)} (h : paF (k + 1) s d i = some R) : (∃ a e, brF k s d i .eps 0 = some (.bad a e) ∧ R = .bad a e) ∨ (∃ p m j, brF k s d i .eps 0 = some (.ok (p, m) j) ∧ altF k s d j (.alt1 p) m = some R) := by
  rw [paF] at h
  cases hb : brF k s d i .eps 0 with
  | none => rw [hb] at h; cases h
  | some RB =>
    rw [hb] at h
    cases RB with
    | bad a e => exact .inl ⟨a, e, rfl, (Option.some.inj h).symm⟩
    | ok pm j => exact .inr ⟨pm.1, pm.2, j, rfl, h⟩
theorem grF_head {k : Nat} {s : ByteArray} {d i : Nat} {R : Res (Pt × Nat)} (h : grF k s d i = some R) : (20 ≤ d ∧ R = .bad i 60) ∨ (¬ 20 ≤ d ∧ ((∃ a e, paF k s (d + 1) (i + 1) = some (.bad a e) ∧ R = .bad a e) ∨ (∃ p m j, paF k s (d + 1) (i + 1) = some (.ok (p, m) j) ∧ ((peekF s j = none ∧ R = .bad j 8) ∨ (∃ c, peekF s j = some c ∧ (c != 41) = true ∧ R = .bad j 8) ∨ (peekF s j = some 41 ∧ R = .ok (p, m) (j + 1)))))) := by
  unfold grF at h
  by_cases e : 20 ≤ d
  · rw [if_pos e] at h; exact .inl ⟨e, (Option.some.inj h).symm⟩
  rw [if_neg e] at h
  refine .inr ⟨e, ?_⟩
  cases hb : paF k s (d + 1) (i + 1) with
  | none => rw [hb] at h; cases h
  | some RB =>
    rw [hb] at h
    cases RB with
    | bad a e => exact .inl ⟨a, e, rfl, (Option.some.inj h).symm⟩
    | ok pm j =>
      obtain ⟨p, m⟩ := pm
      dsimp only at h
      refine .inr ⟨p, m, j, rfl, ?_⟩
      cases hp : peekF s j with
      | none => rw [hp] at h; exact .inl ⟨rfl, (Option.some.inj h).symm⟩
      | some c =>
        rw [hp] at h
        dsimp only at h
        by_cases e1 : c = 41
        · rw [if_pos e1] at h; exact .inr (.inr ⟨by rw [e1], (Option.some.inj h).symm⟩)
        · rw [if_neg e1] at h; exact .inr (.inl ⟨c, rfl, bne_iff_ne.2 e1, (Option.some.inj h).symm⟩)
/-- What is parsed takes as many bytes as it has atoms, at the least. -/
theorem long {s : ByteArray} : ∀ k, (∀ {d i p m j}, atF k s d i = some (.ok (p, m) j) → i + m ≤ j ∧ i + 1 ≤ j) ∧ (∀ {d i acc n p m j}, brF k s d i acc n = some (.ok (p, m) j) → i + m ≤ n + j ∧ i ≤ j) ∧ (∀ {d i p m j}, paF k s d i = some (.ok (p, m) j) → i + m ≤ j ∧ i ≤ j) ∧ (∀ {d i acc n p m j}, altF k s d i acc n = some (.ok (p, m) j) → i + m ≤ n + j ∧ i ≤ j)
  | 0 => ⟨fun h => by simp [atF] at h, fun h => by simp [brF] at h, fun h => by simp [paF] at h, fun h => by simp [altF] at h⟩
  | k + 1 => by
    obtain ⟨ha, hb, hp, hl⟩ := long (s := s) k
    refine ⟨fun h => ?_, fun h => ?_, fun h => ?_, fun h => ?_⟩
    · rcases atF_head h with ⟨_, h⟩ | ⟨_, h⟩ | ⟨_, h⟩ | ⟨_, h⟩ | ⟨_, a, e, _, h⟩ | ⟨_, l, sg, j, he, h⟩ | ⟨c, _, _, _, _, _, _, h⟩ | ⟨c, _, _, _, _, _, _, _, h⟩
      · cases h
      · rcases grF_head h with ⟨_, h⟩ | ⟨_, ⟨a, e, _, h⟩ | ⟨p, m, j, hq, ⟨_, h⟩ | ⟨c, _, _, h⟩ | ⟨_, h⟩⟩⟩
        · cases h
        · cases h
        · cases h
        · cases h
        · have := hp hq
          injection h with h1 h2
          injection h1 with h1 h3
          omega
      · have := clsF_long h; omega
      · injection h with h1 h2
        injection h1 with h1 h3
        omega
      · cases h
      · have := (esc_len he).2
        injection h with h1 h2
        injection h1 with h1 h3
        omega
      · cases h
      · have := rl_pos c
        injection h with h1 h2
        injection h1 with h1 h3
        omega
    · rcases brF_head h with ⟨_, h⟩ | ⟨c, _, ⟨_, h⟩ | ⟨_, ⟨a, e, _, h⟩ | ⟨p, m, j, _, _, h⟩ | ⟨p, m, j, c2, hq, _, _, h⟩ | ⟨p, m, j, c2, hq, _, _, h⟩⟩⟩
      · cases h
      · injection h with h1 h2
        injection h1 with h1 h3
        omega
      · cases h
      · cases h
      · have h1 := ha hq; have h2 := hb h; omega
      · have h1 := ha hq; have h2 := hb h; omega
    · rcases paF_head h with ⟨a, e, _, h⟩ | ⟨p, m, j, hq, h⟩
      · cases h
      · have h1 := hb hq; have h2 := hl h; omega
    · rcases altF_head h with ⟨_, h⟩ | ⟨c, _, _, h⟩ | ⟨_, a, e, _, h⟩ | ⟨_, p, m, j, hq, h⟩
      · cases h
      · injection h with h1 h2
        injection h1 with h1 h3
        omega
      · cases h
      · have h1 := hb hq; have h2 := hl h; omega
theorem Rd.setd {w : World} {b : Nat} {s : ByteArray} {at_ d sz d2 : Nat} (h : Rd w b s at_ d sz) {v : Int} (hv : v = (d2 : Int)) : Rd (w.setCell ⟨b, 2, none⟩ (.int .i64 v)) b s at_ d2 sz := by rw [hv]; exact h.set2
/-- A tree that was built stays, whatever the reader does. -/
theorem Tr.stp {w1 w2 : World} {n b q : Nat} {p : Pt} (h : Tr w1 n (fun k => n ≤ k) q p) (hs : Stp b w1 w2) (hb : b < n) : Tr w2 n (fun k => n ≤ k) q p :=
  h.turn (Nat.le_refl _) (fun k hk hl ho => ⟨ho, hs.block k hl (by omega)⟩)
theorem Tr.down {w1 : World} {n n' q : Nat} {p : Pt} (h : Tr w1 n (fun k => n ≤ k) q p) (hn : n' ≤ n) : Tr w1 n' (fun k => n' ≤ k) q p :=
  h.turn hn (fun k hk hl ho => ⟨by omega, rfl⟩)
section
variable (s : ByteArray)
structure AtOk (k : Nat) : Prop where
  go : ∀ {w : World} {b i d sz : Nat} {R : Res (Pt × Nat)}, Rd w b s i d sz → sz ≤ i → (∀ c, peekF s i = some c → 0 ≤ c) → atF k s d i = some R → Calls Tryd.prog 46 #[.pointer (some ⟨b, 0, none⟩)] w (PostP b s d sz w R)
structure BrOk (k : Nat) : Prop where
  go : ∀ {w : World} {b i d sz : Nat} {R : Res (Pt × Nat)}, Rd w b s i d sz → sz ≤ i → brF k s d i .eps 0 = some R → Calls Tryd.prog 35 #[.pointer (some ⟨b, 0, none⟩)] w (PostP b s d sz w R)
structure PaOk (k : Nat) : Prop where
  go : ∀ {w : World} {b i d sz : Nat} {R : Res (Pt × Nat)}, Rd w b s i d sz → sz ≤ i → paF k s d i = some R → Calls Tryd.prog 22 #[.pointer (some ⟨b, 0, none⟩)] w (PostP b s d sz w R)
end
set_option maxHeartbeats 1000000 in
set_option maxRecDepth 100000 in
theorem group_calls {s : ByteArray} {k : Nat} (PA : PaOk s k) {w : World} {b i d sz : Nat} (h : Rd w b s i d sz) (hz : sz ≤ i) (hp : peekF s i = some 40) {R : Res (Pt × Nat)} (hf : grF k s d i = some R) : Calls Tryd.prog 51 #[.pointer (some ⟨b, 0, none⟩)] w (PostP b s d sz w R) := by
  have PA := Aside0.mk PA
  have HSZ1 := Aside0.mk (show sz ≤ i + 1 by omega)
  have HH := Aside0.mk h
  have HSZ := Aside0.mk hz
  have HC := Aside0.mk (show i + rl 40 ≤ s.size from ((peek_rune h.le hp).resolve_left (by decide)).2)
  obtain ⟨c0, c1, c2, c3⟩ := h.cell
  have HW := Aside0.mk (show ¬ 20 ≤ d → wrap64 ((d : Int) + 1) = ((d + 1 : Nat) : Int) from fun h => by unfold wrap64; omega)
  have HW2 := Aside0.mk (show ¬ 20 ≤ d → wrap64 (((d + 1 : Nat) : Int) - 1) = ((d : Nat) : Int) from fun h => by unfold wrap64; omega)
  have hd := grF_head hf
  clear h hz hp hf
  rcases hd with ⟨h20, rfl⟩ | ⟨h20, hd⟩
  · have h20' : (d : Int) ≥ 20 := by omega
    clear h20
    go_enter Tryd.func51, Tryd.ntmps51
    go_wp2_with (go_at_call 23; (with_reducible refine (bad_calls HH.out 60).mono ?_); rintro e w' ⟨rfl, rfl⟩)
    exact ⟨rfl, rfl, Stp.refl _ _⟩
  · have h20' : ¬ (d : Int) ≥ 20 := by omega
    have hw : (d : Int) + 1 = ((d + 1 : Nat) : Int) := by omega
    have hw2 : (d : Int) = ((d : Nat) : Int) := rfl
    have HHW := Aside0.mk hw
    have HHW2 := Aside0.mk hw2
    clear HW HW2 h20 hw hw2
    rcases hd with ⟨a, e, hq, rfl⟩ | ⟨p, m, j, hq, hd⟩
    · have HQ := Aside0.mk hq
      clear hq
      go_enter Tryd.func51, Tryd.ntmps51
      go_wp2_with (first
        | (go_at_call 37; (with_reducible refine (skip_calls HH.out rune40 HC.out).mono ?_); rintro e w1 ⟨rfl, h1, hs⟩; have H1 := Aside0.mk (show Rd w1 b s (i + 1) d sz from h1); have HS1 := Aside0.mk hs; clear hs c0 c1 c2 c3; obtain ⟨c0, c1, c2, c3⟩ := h1.cell; have f2 := h1.frozen 2; clear h1)
        | (go_at_call 22; (with_reducible refine (PA.out.go (Rd.setd H1.out HHW.out) HSZ1.out HQ.out).mono ?_); rintro e w3 ⟨rfl, hs⟩; have HS3 := Aside0.mk (HS1.out.trans ((Stp.set 2 _).trans hs)); clear hs))
      exact ⟨rfl, rfl, HS3.out⟩
    · have HQ := Aside0.mk hq
      have HLG := Aside0.mk ((long k).2.2.1 hq)
      clear hq
      rcases hd with ⟨hp, rfl⟩ | ⟨c, hp, hc, rfl⟩ | ⟨hp, rfl⟩
      · have HP := Aside0.mk hp
        clear hp
        go_enter Tryd.func51, Tryd.ntmps51
        go_wp2_with (first
          | (go_at_call 37; (with_reducible refine (skip_calls HH.out rune40 HC.out).mono ?_); rintro e w1 ⟨rfl, h1, hs⟩; have H1 := Aside0.mk (show Rd w1 b s (i + 1) d sz from h1); have HS1 := Aside0.mk hs; clear hs c0 c1 c2 c3; obtain ⟨c0, c1, c2, c3⟩ := h1.cell; have f2 := h1.frozen 2; clear h1)
          | (go_at_call 22; (with_reducible refine (PA.out.go (Rd.setd H1.out HHW.out) HSZ1.out HQ.out).mono ?_); rintro e w3 ⟨q, rfl, h3, hs, ht⟩; have H3 := Aside0.mk h3; have HS3 := Aside0.mk (HS1.out.trans ((Stp.set 2 _).trans hs)); clear h3 hs ht c0 c1 c2 c3 f2)
          | (go_at_call 36; (with_reducible refine (peek_no H3.out HP.out).mono ?_); rintro e w4 ⟨rfl, hb⟩; have HS4 := Aside0.mk (HS3.out.trans (Stp.of hb)); clear hb))
        exact ⟨rfl, rfl, HS4.out⟩
      · have HP := Aside0.mk hp
        clear hp
        go_enter Tryd.func51, Tryd.ntmps51
        go_wp2_with (first
          | (go_at_call 37; (with_reducible refine (skip_calls HH.out rune40 HC.out).mono ?_); rintro e w1 ⟨rfl, h1, hs⟩; have H1 := Aside0.mk (show Rd w1 b s (i + 1) d sz from h1); have HS1 := Aside0.mk hs; clear hs c0 c1 c2 c3; obtain ⟨c0, c1, c2, c3⟩ := h1.cell; have f2 := h1.frozen 2; clear h1)
          | (go_at_call 22; (with_reducible refine (PA.out.go (Rd.setd H1.out HHW.out) HSZ1.out HQ.out).mono ?_); rintro e w3 ⟨q, rfl, h3, hs, ht⟩; have H3 := Aside0.mk h3; have HS3 := Aside0.mk (HS1.out.trans ((Stp.set 2 _).trans hs)); clear h3 hs ht c0 c1 c2 c3 f2)
          | (go_at_call 36; (with_reducible refine (peek_ok H3.out HP.out).mono ?_); rintro e w4 ⟨rfl, hb⟩; have H4 := Aside0.mk (H3.out.below hb); have HS4 := Aside0.mk (HS3.out.trans (Stp.of hb)); clear hb)
          | (go_at_call 23; (with_reducible refine (bad_calls H4.out 8).mono ?_); rintro e w' ⟨rfl, rfl⟩))
        exact ⟨rfl, rfl, HS4.out⟩
      · have HP := Aside0.mk hp
        clear hp
        go_enter Tryd.func51, Tryd.ntmps51
        go_wp2_with (first
          | (go_at_call 37; (with_reducible refine (skip_calls HH.out rune40 HC.out).mono ?_); rintro e w1 ⟨rfl, h1, hs⟩; have H1 := Aside0.mk (show Rd w1 b s (i + 1) d sz from h1); have HS1 := Aside0.mk hs; clear hs c0 c1 c2 c3; obtain ⟨c0, c1, c2, c3⟩ := h1.cell; have f2 := h1.frozen 2; clear h1)
          | (go_at_call 22; (with_reducible refine (PA.out.go (Rd.setd H1.out HHW.out) HSZ1.out HQ.out).mono ?_); rintro e w3 ⟨q, rfl, h3, hs, ht⟩; have H3 := Aside0.mk h3; have HS3 := Aside0.mk (HS1.out.trans ((Stp.set 2 _).trans hs)); have HT3 := Aside0.mk ht; have HZ3 := Aside0.mk (show w.heap.size ≤ (w1.setCell ⟨b, 2, none⟩ (.int .i64 ((d : Int) + 1))).heap.size from by have := HS1.out.size; simpa using this); clear h3 hs ht c0 c1 c2 c3 f2)
          | (go_at_call 36; (with_reducible refine (peek_ok H3.out HP.out).mono ?_); rintro e w4 ⟨rfl, hb⟩; have H4 := Aside0.mk (H3.out.below hb); have HS4 := Aside0.mk (HS3.out.trans (Stp.of hb)); have HT4 := Aside0.mk ((HT3.out.down HZ3.out).stp (Stp.of (b := b) hb) HH.out.lt); clear hb)
          | (go_at_call 37; (with_reducible refine (skip_calls H4.out rune41 (((peek_rune H4.out.le HP.out).resolve_left (by decide)).2)).mono ?_); rintro e w5 ⟨rfl, h5, hs⟩; have H5 := Aside0.mk (show Rd w5 b s (j + 1) (d + 1) (sz + m) from h5); have HS5 := Aside0.mk (HS4.out.trans hs); have HT5 := Aside0.mk (HT4.out.stp hs HH.out.lt); clear hs; obtain ⟨c0, c1, c2, c3⟩ := h5.cell; have f2 := h5.frozen 2; clear h5))
        go_ret
        exact ⟨q, rfl, Rd.setd H5.out (by omega), HS5.out.trans (Stp.set 2 _), HT5.out.stp (Stp.set 2 _) HH.out.lt⟩
end Go.Proofs.YtmfpikhmeacnbaaDoor.X

/- Patterns by hand: atom (mkX7.py). -/
namespace Go.Proofs.YtmfpikhmeacnbaaDoor.X
open Go.RowKit Go.Proofs.YtmfpikhmeacnbaaDoor.Q Go.Proofs.YtmfpikhmeacnbaaDoorW.PrintWords Go.Proofs.YtmfpikhmeacnbaaDoorW.PrintLast Go.Proofs.YtmfpikhmeacnbaaDoorW.PrintMore
set_option linter.unusedVariables false
set_option linter.unusedSimpArgs false
theorem rune91 : Rune 91 := ⟨by decide, by decide, by decide⟩
theorem rune46 : Rune 46 := ⟨by decide, by decide, by decide⟩
set_option maxHeartbeats 2000000 in
set_option maxRecDepth 100000 in
theorem atom_calls {s : ByteArray} {k : Nat} (PA : PaOk s k) {w : World} {b i d sz : Nat} (h : Rd w b s i d sz) (hz : sz ≤ i) (hc : ∀ c, peekF s i = some c → 0 ≤ c) {R : Res (Pt × Nat)} (hf : atF (k + 1) s d i = some R) : Calls Tryd.prog 46 #[.pointer (some ⟨b, 0, none⟩)] w (PostP b s d sz w R) := by
  have PA := Aside0.mk PA
  have HH := Aside0.mk h
  have HSZ := Aside0.mk hz
  have HSZ1 := Aside0.mk (show sz ≤ i + 1 by omega)
  have HW := Aside0.mk (show wrap64 ((sz : Int) + 1) = ((sz + 1 : Nat) : Int) by have h1 := h.short; have h2 := h.le; unfold wrap64; omega)
  have hd := atF_head hf
  unfold AtB at hd
  have HPR : ∀ {c : Int}, peekF s i = some c → 0 ≤ c → Rune c ∧ i + rl c ≤ s.size := fun hp h0 => (peek_rune h.le hp).resolve_left (by omega)
  have HPR := Aside0.mk @HPR
  have HCC := Aside0.mk hc
  clear h hz hf hc
  rcases hd with ⟨hp, rfl⟩ | ⟨hp, hq⟩ | ⟨hp, hq⟩ | ⟨hp, rfl⟩ | ⟨hp, a1, e1, hq, rfl⟩ | ⟨hp, l, sg, j, hq, rfl⟩ | ⟨c, hp, f1, f2, f3, f4, hs, rfl⟩ | ⟨c, hp, f1, f2, f3, f4, hs, h0, rfl⟩
  · have HP := Aside0.mk hp
    clear hp
    go_enter Tryd.func46, Tryd.ntmps46
    go_wp2_with (go_at_call 36; (with_reducible refine (peek_no HH.out HP.out).mono ?_); rintro e w1 ⟨rfl, hb⟩; have HS1 := Aside0.mk (Stp.of (b := b) hb); clear hb)
    exact ⟨rfl, rfl, HS1.out⟩
  · have HP := Aside0.mk hp
    have HQ := Aside0.mk hq
    clear hp hq
    go_enter Tryd.func46, Tryd.ntmps46
    obtain ⟨R', hR'⟩ : ∃ R', R' = R := ⟨_, rfl⟩
    rw [← hR']
    have HRR := Aside0.mk hR'
    clear hR'
    cases R with
    | bad a1 e1 =>
      go_wp2_with (first
        | (go_at_call 36; (with_reducible refine (peek_ok HH.out HP.out).mono ?_); rintro e w1 ⟨rfl, hb⟩; have HS1 := Aside0.mk (Stp.of (b := b) hb); have H1 := Aside0.mk (HH.out.below hb); clear hb)
        | (go_at_call 51; (with_reducible refine (group_calls PA.out H1.out HSZ.out HP.out HQ.out).mono ?_); rintro e w2 ⟨rfl, hs⟩; have HS2 := Aside0.mk (HS1.out.trans hs); clear hs))
      rw [HRR.out]
      exact ⟨rfl, rfl, HS2.out⟩
    | ok pm j =>
      obtain ⟨p, m⟩ := pm
      go_wp2_with (first
        | (go_at_call 36; (with_reducible refine (peek_ok HH.out HP.out).mono ?_); rintro e w1 ⟨rfl, hb⟩; have HS1 := Aside0.mk (Stp.of (b := b) hb); have H1 := Aside0.mk (HH.out.below hb); clear hb)
        | (go_at_call 51; (with_reducible refine (group_calls PA.out H1.out HSZ.out HP.out HQ.out).mono ?_); rintro e w2 ⟨q, rfl, h2, hs, ht⟩; have H2 := Aside0.mk h2; have HS2 := Aside0.mk (HS1.out.trans hs); have HT2 := Aside0.mk ht; clear h2 hs ht))
      rw [HRR.out]
      go_ret
      exact ⟨q, rfl, H2.out, HS2.out, HT2.out.down HS1.out.size⟩
  · have HP := Aside0.mk hp
    have HQ := Aside0.mk hq
    have HC := Aside0.mk (HPR.out hp (by decide)).2
    clear hp hq
    obtain ⟨R', hR'⟩ : ∃ R', R' = R := ⟨_, rfl⟩
    rw [← hR']
    have HRR := Aside0.mk hR'
    clear hR'
    cases R with
    | bad a1 e1 =>
      go_enter Tryd.func46, Tryd.ntmps46
      go_wp2_with (first
        | (go_at_call 36; (with_reducible refine (peek_ok HH.out HP.out).mono ?_); rintro e w1 ⟨rfl, hb⟩; have HS1 := Aside0.mk (Stp.of (b := b) hb); have H1 := Aside0.mk (HH.out.below hb); clear hb)
        | (go_at_call 37; (with_reducible refine (skip_calls H1.out rune91 HC.out).mono ?_); rintro e w2 ⟨rfl, h2, hs⟩; have H2 := Aside0.mk (show Rd w2 b s (i + 1) d sz from h2); have HS2 := Aside0.mk (HS1.out.trans hs); clear hs;  clear h2)
        | (go_at_call 52; (with_reducible refine (cls_calls H2.out HSZ1.out HQ.out).mono ?_); rintro e w3 ⟨rfl, hs⟩; have HS3 := Aside0.mk (HS2.out.trans hs); clear hs))
      rw [HRR.out]
      exact ⟨rfl, rfl, HS3.out⟩
    | ok pm j =>
      obtain ⟨p, m⟩ := pm
      go_enter Tryd.func46, Tryd.ntmps46
      go_wp2_with (first
        | (go_at_call 36; (with_reducible refine (peek_ok HH.out HP.out).mono ?_); rintro e w1 ⟨rfl, hb⟩; have HS1 := Aside0.mk (Stp.of (b := b) hb); have H1 := Aside0.mk (HH.out.below hb); clear hb)
        | (go_at_call 37; (with_reducible refine (skip_calls H1.out rune91 HC.out).mono ?_); rintro e w2 ⟨rfl, h2, hs⟩; have H2 := Aside0.mk (show Rd w2 b s (i + 1) d sz from h2); have HS2 := Aside0.mk (HS1.out.trans hs); clear hs;  clear h2)
        | (go_at_call 52; (with_reducible refine (cls_calls H2.out HSZ1.out HQ.out).mono ?_); rintro e w3 ⟨q, rfl, h3, hs, ht⟩; have H3 := Aside0.mk h3; have HS3 := Aside0.mk (HS2.out.trans hs); have HT3 := Aside0.mk ht; clear h3 hs ht))
      rw [HRR.out]
      go_ret
      exact ⟨q, rfl, H3.out, HS3.out, HT3.out.down HS2.out.size⟩
  · have HP := Aside0.mk hp
    have HC := Aside0.mk (HPR.out hp (by decide)).2
    clear hp
    go_enter Tryd.func46, Tryd.ntmps46
    go_wp2_with (first
      | (go_at_call 36; (with_reducible refine (peek_ok HH.out HP.out).mono ?_); rintro e w1 ⟨rfl, hb⟩; have HS1 := Aside0.mk (Stp.of (b := b) hb); have H1 := Aside0.mk (HH.out.below hb); clear hb)
      | (go_at_call 37; (with_reducible refine (skip_calls H1.out rune46 HC.out).mono ?_); rintro e w2 ⟨rfl, h2, hs⟩; have H2 := Aside0.mk (show Rd w2 b s (i + 1) d sz from h2); have HS2 := Aside0.mk (HS1.out.trans hs); clear hs; obtain ⟨c0, c1, c2, c3⟩ := h2.cell; have f3 := h2.frozen 3; clear h2)
      | ((with_reducible refine gate_dst (N := 35) rfl ?_); refine box_event ?hg (N := 35) ?hd (cs := (ndL 0 (.slice none 0 0) true false (.slice none 0 0) 0).toArray) (t := 74) ?hr ?_; (case hd => rfl); (case hg => rfl); (case hr => first | (go_simp; done) | (go_simp; rfl)); intro X hX w5 hx5 hb5; have HX := Aside0.mk hX; have HXB5 := Aside0.mk hx5; have HB5 := Aside0.mk hb5; clear hX hx5 hb5))
    go_ret
    have h4 := Rd.setz H2.out HW.out
    have hs4 := HS2.out.trans (Stp.set (b := b) (w := w2) 3 (.int .i64 (wrap64 ((sz : Int) + 1))))
    exact ⟨X, rfl, h4.below HB5.out, hs4.trans (Stp.of HB5.out), nd_one (A := none) (cc := 0) (l := []) (by rw [HX.out]; exact hs4.size) HXB5.out (Kd.R_nil _ _ _ _ _)⟩
  · have HP := Aside0.mk hp
    have HC := Aside0.mk (HPR.out hp (by decide)).2
    have HQ := Aside0.mk hq
    clear hp hq
    go_enter Tryd.func46, Tryd.ntmps46
    go_wp2_with (first
      | (go_at_call 36; (with_reducible refine (peek_ok HH.out HP.out).mono ?_); rintro e w1 ⟨rfl, hb⟩; have HS1 := Aside0.mk (Stp.of (b := b) hb); have H1 := Aside0.mk (HH.out.below hb); clear hb)
      | (go_at_call 37; (with_reducible refine (skip_calls H1.out rune92 HC.out).mono ?_); rintro e w2 ⟨rfl, h2, hs⟩; have H2 := Aside0.mk (show Rd w2 b s (i + 1) d sz from h2); have HS2 := Aside0.mk (HS1.out.trans hs); clear hs;  clear h2)
      | (go_at_call 53; (with_reducible refine (esc_bad H2.out HQ.out).mono ?_); rintro e w3 ⟨rfl, hs⟩; have HS3 := Aside0.mk (HS2.out.trans hs); clear hs))
    exact ⟨rfl, rfl, HS3.out⟩
  · have HP := Aside0.mk hp
    have HC := Aside0.mk (HPR.out hp (by decide)).2
    have HQ := Aside0.mk hq
    clear hp hq
    go_enter Tryd.func46, Tryd.ntmps46
    go_wp2_with (first
      | (go_at_call 36; (with_reducible refine (peek_ok HH.out HP.out).mono ?_); rintro e w1 ⟨rfl, hb⟩; have HS1 := Aside0.mk (Stp.of (b := b) hb); have H1 := Aside0.mk (HH.out.below hb); clear hb)
      | (go_at_call 37; (with_reducible refine (skip_calls H1.out rune92 HC.out).mono ?_); rintro e w2 ⟨rfl, h2, hs⟩; have H2 := Aside0.mk (show Rd w2 b s (i + 1) d sz from h2); have HS2 := Aside0.mk (HS1.out.trans hs); clear hs;  clear h2)
      | (go_at_call 53; (with_reducible refine (esc_ok H2.out HQ.out).mono ?_); rintro e w3 ⟨v, rfl, h3, hs, hSp⟩; obtain ⟨g4, c4, rfl, hR⟩ := id hSp; have H3 := Aside0.mk h3; have HS3 := Aside0.mk (HS2.out.trans hs); have HR := Aside0.mk hR; obtain ⟨c0, c1, c2, c3⟩ := h3.cell; have f3 := h3.frozen 3; clear h3 hs hSp hR)
      | ((with_reducible refine gate_dst (N := 57) rfl ?_); refine box_event ?hg (N := 57) ?hd (cs := (ndL 0 (.slice (some ⟨g4, 0, none⟩) l.length c4) false sg (.slice none 0 0) 0).toArray) (t := 74) ?hr ?_; (case hd => rfl); (case hg => rfl); (case hr => first | (go_simp; done) | (go_simp; rfl)); intro X hX w5 hx5 hb5; have HX := Aside0.mk hX; have HXB5 := Aside0.mk hx5; have HB5 := Aside0.mk hb5; clear hX hx5 hb5))
    go_ret
    have h4 := Rd.setz H3.out HW.out
    have hs4 := HS3.out.trans (Stp.set (b := b) (w := w3) 3 (.int .i64 (wrap64 ((sz : Int) + 1))))
    exact ⟨X, rfl, h4.below HB5.out, hs4.trans (Stp.of HB5.out), nd_one (by rw [HX.out]; exact hs4.size) HXB5.out (Kd.R_lower (Kd.R_mono (Kd.R_below (Kd.R_far HR.out (fun q hq => fun e => by have h1 := HH.out.lt; have h2 := HS2.out.size; have e' : q = b := e; omega) _) HB5.out) (fun q hq => Nat.le_trans HS2.out.size hq)) HS2.out.size)⟩
  · have HSP := Aside0.mk (hs.resolve_right (by have := HCC.out c hp; omega))
    have HP := Aside0.mk hp
    clear hp hs
    go_enter Tryd.func46, Tryd.ntmps46
    go_wp2_with (first
      | (go_at_call 36; (with_reducible refine (peek_ok HH.out HP.out).mono ?_); rintro e w1 ⟨rfl, hb⟩; have HS1 := Aside0.mk (Stp.of (b := b) hb); have H1 := Aside0.mk (HH.out.below hb); clear hb)
      | (go_at_call 31; (with_reducible refine (special_calls c _).mono ?_); rw [HSP.out]; rintro e w2 ⟨rfl, hb⟩; have HS2 := Aside0.mk (HS1.out.trans (Stp.of (b := b) hb)); have H2 := Aside0.mk (H1.out.below hb); clear hb)
      | (go_at_call 23; (with_reducible refine (bad_calls H2.out 8).mono ?_); rintro e w' ⟨rfl, rfl⟩))
    exact ⟨rfl, rfl, HS2.out⟩
  · have HSP := Aside0.mk hs
    have HRN := Aside0.mk (HPR.out hp (by omega)).1
    have HC := Aside0.mk (HPR.out hp (by omega)).2
    have HP := Aside0.mk hp
    clear hp hs h0
    go_enter Tryd.func46, Tryd.ntmps46
    go_wp2_with (first
      | (go_at_call 36; (with_reducible refine (peek_ok HH.out HP.out).mono ?_); rintro e w1 ⟨rfl, hb⟩; have HS1 := Aside0.mk (Stp.of (b := b) hb); have H1 := Aside0.mk (HH.out.below hb); clear hb)
      | (go_at_call 31; (with_reducible refine (special_calls c _).mono ?_); rw [HSP.out]; rintro e w3 ⟨rfl, hb⟩; have HS3 := Aside0.mk (HS1.out.trans (Stp.of (b := b) hb)); have H3 := Aside0.mk (H1.out.below hb); clear hb)
      | (go_at_call 37; (with_reducible refine (skip_calls H3.out HRN.out HC.out).mono ?_); rintro e w2 ⟨rfl, h2, hs⟩; have H2 := Aside0.mk h2; have HS2 := Aside0.mk (HS3.out.trans hs); clear hs; obtain ⟨c0, c1, c2, c3⟩ := h2.cell; have f3 := h2.frozen 3; clear h2)
      | ((with_reducible refine gate_dst (N := 78) rfl ?_); refine box_event ?hg (N := 78) ?hd (cs := (ndL 0 (.slice (some ⟨w2.heap.size, 0, none⟩) 1 1) false true (.slice none 0 0) 0).toArray) (t := 74) ?hr ?_; (case hd => rfl); (case hg => rfl); (case hr => first | (go_simp; done) | (go_simp; rfl)); intro X hX w5 hx5 hb5; have HX := Aside0.mk hX; have HXB5 := Aside0.mk hx5; have HB5 := Aside0.mk hb5; clear hX hx5 hb5))
    go_ret
    have h4 := Rd.setz H2.out HW.out
    have hs4 := HS2.out.trans (Stp.set (b := b) (w := w2) 3 (.int .i64 (wrap64 ((sz : Int) + 1))))
    have hb4 := below_alloc (Below.refl (w2.setCell ⟨b, 3, none⟩ (.int .i64 (wrap64 ((sz : Int) + 1)))).heap.size (w2.setCell ⟨b, 3, none⟩ (.int .i64 (wrap64 ((sz : Int) + 1))))) (.cells #[.int .i32 c, .int .i32 c] 86)
    have hsp := Spn.mk1 (w := w2.setCell ⟨b, 3, none⟩ (.int .i64 (wrap64 ((sz : Int) + 1)))) (c := c) (b := w2.heap.size) (by simp) (by have hbn := blk_new (w2.setCell ⟨b, 3, none⟩ (.int .i64 (wrap64 ((sz : Int) + 1)))) (.cells #[.int .i32 c, .int .i32 c] 86); rw [World.size_setCell] at hbn; exact hbn)
    obtain ⟨g4, c4, hv, hR⟩ := hsp
    have h5 := (h4.below hb4).below HB5.out
    have hs5 := (hs4.trans (Stp.of hb4)).trans (Stp.of HB5.out)
    refine ⟨X, rfl, h5, hs5, nd_one (l := [⟨c, c⟩]) (by rw [HX.out]; exact Nat.le_trans hs4.size hb4.size) HXB5.out (Kd.R_lower (Kd.R_mono (Kd.R_below hR HB5.out) (fun q hq => Nat.le_trans hs4.size hq)) hs4.size)⟩
end Go.Proofs.YtmfpikhmeacnbaaDoor.X

/- Patterns by hand: branch (mkX8.py). -/
namespace Go.Proofs.YtmfpikhmeacnbaaDoor.X
open Go.RowKit Go.Proofs.YtmfpikhmeacnbaaDoor.Q Go.Proofs.YtmfpikhmeacnbaaDoorW.PrintWords Go.Proofs.YtmfpikhmeacnbaaDoorW.PrintLast Go.Proofs.YtmfpikhmeacnbaaDoorW.PrintMore
set_option linter.unusedVariables false
set_option linter.unusedSimpArgs false
theorem info41 : (Tryd.prog.info? 41).map (fun i => (i.zero, i.size, i.bytes)) = some (some (.pointer none), 1, 8) := by kernel_rfl
/-- A part with a list of parts that is being built: X is its block. -/
structure Bld (B : Nat) (wr : World) (X : Nat) (k : Int) (acc : Pt) (bs : List Nat) (A : Option Addr) (m cc : Nat) : Prop where
  blk : wr.heap[X]? = some (.cells (ndL k (.slice none 0 0) false false (.slice A m cc) 0).toArray 74 (0, 0))
  row : kP.R 41 wr B (fun q => B ≤ q ∧ q ≠ X) (.slice A m cc) bs
  tree : TT wr B (fun q => B ≤ q ∧ q ≠ X ∧ some q ≠ (Value.slice A m cc).ownBlock) acc bs
  kind : acc.kind = k ∧ acc.set = [] ∧ acc.but = false ∧ acc.plain = false ∧ acc.sign = 0
  le : B ≤ X
section
variable {B : Nat} {wr w1 : World} {X : Nat} {k : Int} {acc : Pt} {bs : List Nat} {A : Option Addr} {m cc : Nat}
theorem Bld.len (h : Bld B wr X k acc bs A m cc) : m = bs.length := (Kd.R_reads' h.row).1
theorem Bld.step (h : Bld B wr X k acc bs A m cc) (hm : ∀ q, B ≤ q → q < wr.heap.size → w1.heap[q]? = wr.heap[q]?) : Bld B w1 X k acc bs A m cc :=
  ⟨(hm X h.le (blk_lt h.blk)).trans h.blk, Kd.R_step h.row (fun q hq hl => hm q hq.1 hl), TT.turn (Nat.le_refl _) (fun q hq hl ho => ⟨ho, hm q hq hl⟩) h.tree, h.kind, h.le⟩
theorem Bld.stp (h : Bld B wr X k acc bs A m cc) {b : Nat} (hs : Stp b wr w1) (hb : b < B) : Bld B w1 X k acc bs A m cc := h.step (fun q hq hl => hs.block q hl (by omega))
theorem Bld.below (h : Bld B wr X k acc bs A m cc) (hs : Below wr.heap.size wr w1) : Bld B w1 X k acc bs A m cc := h.step (fun q _ hl => hs.block q hl)
theorem Bld.tr (h : Bld B wr X k acc bs A m cc) : Tr wr B (fun q => B ≤ q) X acc := by
  obtain ⟨h1, h2, h3, h4, h5⟩ := h.kind
  refine ⟨bs, TT.turn (Nat.le_refl _) (fun q hq hl ho => ⟨hq, rfl⟩) h.tree, h.le, h.le, .slice none 0 0, .slice A m cc, ?_, ?_, Kd.R_mono h.row (fun q hq => hq.1)⟩
  · rw [h1, h3, h4, h5]; exact h.blk
  · rw [h2]; exact Kd.R_nil _ _ _ _ _
/-- One part more. -/
theorem Bld.push (h : Bld B wr X k acc bs A m cc) {p acc' : Pt} {q N A5 m5 c5} {w5 : World} (hk : acc'.kind = k ∧ acc'.set = [] ∧ acc'.but = false ∧ acc'.plain = false ∧ acc'.sign = 0)
    (hT : ∀ {w : World} {ok : Nat → Prop} {cs : List Nat}, TT w B ok acc bs → TT w B ok p cs → Nd w B ok q p cs → TT w B ok acc' (bs ++ [q]))
    (ht : Tr wr N (fun q => N ≤ q) q p) (hN : B ≤ N) (hX : X < N) (hv : ∀ g, (Value.slice A m cc).ownBlock = some g → g < N)
    (ho : kP.R 41 w5 B (fun q => B ≤ q ∧ q ≠ X) (.slice A5 (bs ++ [q]).length c5) (bs ++ [q])) (hg : wr.grownBy w5 (Value.slice A m cc).ownBlock) (hat : (Value.slice A5 (bs ++ [q]).length c5).ownBlock = (Value.slice A m cc).ownBlock ∨ ∃ b, (Value.slice A5 (bs ++ [q]).length c5).ownBlock = some b ∧ wr.heap.size ≤ b) (hm : m5 = (bs ++ [q]).length) :
    Bld B (w5.setCell ⟨X, 4, none⟩ (.slice A5 m5 c5)) X k acc' (bs ++ [q]) A5 m5 c5 := by
  subst hm
  have hne : ∀ q', q' < wr.heap.size → some q' ≠ (Value.slice A m cc).ownBlock → some q' ≠ (Value.slice A5 (bs ++ [q]).length c5).ownBlock := by
    intro q' hl hq e
    rcases hat with hat | ⟨b, hb, hle⟩
    · exact hq (e.trans hat)
    · rw [hb] at e; injection e with e; omega
  have hmv : ∀ q', q' < wr.heap.size → q' ≠ X → some q' ≠ (Value.slice A m cc).ownBlock → (w5.setCell ⟨X, 4, none⟩ (.slice A5 (bs ++ [q]).length c5)).heap[q']? = wr.heap[q']? :=
    fun q' hl hx hq => (Below.heap_setCell _ _ _ q' (fun e => hx e)).trans (hg.block q' hl hq)
  have hXv : some X ≠ (Value.slice A m cc).ownBlock := fun e => (h.row.1 X e.symm).2 rfl
  obtain ⟨cs, ht1, ht2⟩ := ht
  have hpv : ∀ q', N ≤ q' → some q' ≠ (Value.slice A m cc).ownBlock := fun q' hq e => by have := hv q' e.symm; omega
  refine ⟨?_, Kd.R_far ho (fun q hq => hq.2) _, hT (cs := cs) ?_ ?_ ?_, hk, h.le⟩
  · exact blk_put ((hg.block X (blk_lt h.blk) hXv).trans h.blk) 4 _ rfl
  · exact TT.turn (Nat.le_refl _) (fun q' hq hl hok => ⟨⟨hok.1, hok.2.1, hne q' hl hok.2.2⟩, hmv q' hl hok.2.1 hok.2.2⟩) h.tree
  · exact TT.turn hN (fun q' hq hl hok => ⟨⟨by omega, by omega, hne q' hl (hpv q' hq)⟩, hmv q' hl (by omega) (hpv q' hq)⟩) ht1
  · exact ht2.turn hN (fun q' hq hl hok => ⟨⟨by omega, by omega, hne q' hl (hpv q' hq)⟩, hmv q' hl (by omega) (hpv q' hq)⟩)
theorem Bld.new (hX : B ≤ X) (h : w1.heap[X]? = some (.cells (ndL 1 (.slice none 0 0) false false (.slice none 0 0) 0).toArray 74 (0, 0))) : Bld B w1 X 1 .eps [] none 0 0 :=
  ⟨h, Kd.R_nil _ _ _ _ _, rfl, ⟨rfl, rfl, rfl, rfl, rfl⟩, hX⟩
theorem kP_mk1 {w w1 : World} {q b : Nat} (hb : w.heap.size ≤ b) (h : w1.heap[b]? = some (.cells #[.pointer (some ⟨q, 0, none⟩)] 41 (0, 0))) : kP.R 41 w1 w.heap.size (fun k => w.heap.size ≤ k) (.slice (some ⟨b, 0, none⟩) 1 1) [q] := by
  refine ⟨fun k hk => by have e : b = k := by simpa [Value.ownBlock] using hk
                         omega, [.pointer (some ⟨q, 0, none⟩)], ?_, ?_⟩
  · exact ⟨rfl, .inr ⟨b, 1, _, rfl, hb, h, Nat.le_refl _, by unfold maxLen; omega, rfl, rfl⟩⟩
  · exact ⟨rfl, fun j p hj => by
      match j, hj with
      | 0, hj => cases hj; rfl⟩
end
/-- A part that comes again. -/
theorem Tr.again {w4 w5 : World} {n q Y : Nat} {p : Pt} {c : Int} (h : Tr w4 n (fun k => n ≤ k) q p) (hn : n ≤ w4.heap.size) (hb : Below w4.heap.size w4 w5) (hY : w4.heap.size ≤ Y)
    (hS : w5.heap[w4.heap.size]? = some (.cells #[.pointer (some ⟨q, 0, none⟩)] 41 (0, 0))) (hx : w5.heap[Y]? = some (.cells (ndL 3 (.slice none 0 0) false false (.slice (some ⟨w4.heap.size, 0, none⟩) 1 1) c).toArray 74 (0, 0))) :
    Tr w5 n (fun k => n ≤ k) Y (.again p c) := by
  obtain ⟨cs, h1, h2⟩ := h
  have hm : ∀ k, n ≤ k → k < w4.heap.size → n ≤ k → n ≤ k ∧ w5.heap[k]? = w4.heap[k]? := fun k hk hl ho => ⟨ho, hb.block k hl⟩
  refine ⟨[q], ⟨q, cs, rfl, TT.turn (Nat.le_refl _) hm h1, h2.turn (Nat.le_refl _) hm⟩, by omega, by omega, .slice none 0 0, .slice (some ⟨w4.heap.size, 0, none⟩) 1 1, hx, Kd.R_nil _ _ _ _ _, ?_⟩
  exact Kd.R_lower (Kd.R_mono (kP_mk1 (w := w4) (Nat.le_refl _) hS) (fun k hk => Nat.le_trans hn hk)) hn
set_option maxHeartbeats 4000000 in
set_option maxRecDepth 100000 in
theorem branch_calls {s : ByteArray} {k : Nat} (AT : ∀ k', k' < k → AtOk s k') {w : World} {b i d sz : Nat} (h : Rd w b s i d sz) (hz : sz ≤ i) {R : Res (Pt × Nat)} (hf : brF k s d i .eps 0 = some R) : Calls Tryd.prog 35 #[.pointer (some ⟨b, 0, none⟩)] w (PostP b s d sz w R) := by
  have AT := Aside0.mk AT
  have HH := Aside0.mk h
  have HSZ := Aside0.mk hz
  have HBT := Aside0.mk (show b < w.heap.size from h.lt)
  cases hp : peekF s i with
  | none =>
    have hR : R = .bad i 8 := by
      cases k with
      | zero => simp [brF] at hf
      | succ k => rcases brF_head hf with ⟨_, h⟩ | ⟨c, h, _⟩; exact h; rw [hp] at h; cases h
    subst hR
    have HP := Aside0.mk hp
    clear hp hf h hz
    go_enter Tryd.func35, Tryd.ntmps35
    go_wp2_with (first
      | ((with_reducible refine gate_dst (N := 8) rfl ?_); refine box_event ?hg (N := 8) ?hd (cs := (ndL 1 (.slice none 0 0) false false (.slice none 0 0) 0).toArray) (t := 74) ?hr ?_; (case hd => rfl); (case hg => rfl); (case hr => first | (go_simp; done) | (go_simp; rfl)); intro X hX w1 hx5 hb5; have HXL := Aside0.mk (show w.heap.size ≤ X by omega); have HXB1 := Aside0.mk hx5; have H1 := Aside0.mk (HH.out.below hb5); have HS1 := Aside0.mk (Stp.of (b := b) hb5); clear hX hx5 hb5)
      | (go_at_call 36; (with_reducible refine (peek_no H1.out HP.out).mono ?_); rintro e w2 ⟨rfl, hb⟩; have HS2 := Aside0.mk (HS1.out.trans (Stp.of (b := b) hb)); clear hb))
    exact ⟨rfl, rfl, HS2.out⟩
  | some c =>
  have HP := Aside0.mk hp
  have HF0 := Aside0.mk hf
  clear hp hf h hz
  go_enter Tryd.func35, Tryd.ntmps35
  go_wp2_with (first
    | ((with_reducible refine gate_dst (N := 8) rfl ?_); refine box_event ?hg (N := 8) ?hd (cs := (ndL 1 (.slice none 0 0) false false (.slice none 0 0) 0).toArray) (t := 74) ?hr ?_; (case hd => rfl); (case hg => rfl); (case hr => first | (go_simp; done) | (go_simp; rfl)); intro X hX w1 hx5 hb5; have HXL := Aside0.mk (show w.heap.size ≤ X by omega); have HXB1 := Aside0.mk hx5; have H1 := Aside0.mk (HH.out.below hb5); have HS1 := Aside0.mk (Stp.of (b := b) hb5); clear hX hx5 hb5)
    | (go_at_call 36; (with_reducible refine (peek_ok H1.out HP.out).mono ?_); rintro e w2 ⟨rfl, hb⟩; have H2 := Aside0.mk (H1.out.below hb); have HS2 := Aside0.mk (HS1.out.trans (Stp.of (b := b) hb)); have HB2 := Aside0.mk ((Bld.new HXL.out HXB1.out).below hb); clear hb))
  try go_frame
  clear HXB1 H1 HS1
  go_loopg [4] k (fun kq v4 wr => ∃ (i2 : Nat) (c : Int) (acc : Pt) (n : Nat) (bs : List Nat) (A : Option Addr) (m cc : Nat), v4 = .int .i32 c ∧ Aside0 (peekF s i2 = some c) ∧ Aside0 (brF kq s d i2 acc n = some R ∧ kq ≤ k) ∧ Aside0 (Rd wr b s i2 d (sz + n)) ∧ Aside0 (Stp b w wr) ∧ Aside0 (Bld w.heap.size wr X 1 acc bs A m cc) ∧ Aside0 (sz + n ≤ i2 ∧ m ≤ i2))
  case atStart => exact ⟨i, c, .eps, 0, [], none, 0, 0, rfl, HP, ⟨HF0.out, Nat.le_refl _⟩, ⟨H2.out⟩, ⟨HS2.out⟩, ⟨HB2.out⟩, ⟨by have := HSZ.out; omega, by omega⟩⟩
  case round =>
    clear H2 HS2 HB2 HP HF0
    obtain ⟨i2, c, acc, n, bs, A, m, cc, rfl, HP, HF, HR, HS, HB, HZ⟩ := hrel
    cases gk with
    | zero => exact absurd HF.out.1 (by simp [brF])
    | succ k1 =>
    have hd : BrB k1 s d i2 acc n c R := by
      rcases brF_head HF.out.1 with ⟨h, _⟩ | ⟨c', h, hB⟩
      · rw [HP.out] at h; cases h
      · rw [HP.out] at h; cases h; exact hB
    have HAT := Aside0.mk (AT.out k1 (by have := HF.out.2; omega))
    have HX2 := Aside0.mk (show 2 ≤ X by have h1 := HR.out.two; have h2 := HB.out.le; have h3 := HBT.out; omega)
    have HXb := Aside0.mk (show X ≠ b by have h2 := HB.out.le; have h3 := HBT.out; omega)
    rcases hd with ⟨hx, rfl⟩ | ⟨⟨h0, h124, h41⟩, hd⟩
    · have hx' : c < 0 ∨ c = 124 ∨ c = 41 := hx
      clear hx
      rcases hx' with hx | rfl | rfl
      all_goals
        go_wp2_with (fail)
        go_ret
        exact ⟨X, rfl, HR.out, HS.out, HB.out.tr⟩
    · have HC0 := Aside0.mk (show ∀ c', peekF s i2 = some c' → 0 ≤ c' from fun c' h => by rw [HP.out] at h; cases h; omega)
      have h0' : c ≥ 0 := by omega
      have g124 : (c != 124) = true := bne_iff_ne.2 h124
      have g41 : (c != 41) = true := bne_iff_ne.2 h41
      clear h0 h124 h41
      rcases hd with ⟨a1, e1, hq, rfl⟩ | ⟨p, m1, j, hq, hp2, rfl⟩ | ⟨p, m1, j, c2, hq, hp2, hsg, hN⟩ | ⟨p, m1, j, c2, hq, hp2, ⟨s1, s2, s3⟩, hN⟩
      · have HQ := Aside0.mk hq
        clear hq
        go_wp2_with (go_at_call 46; (with_reducible refine (HAT.out.go HR.out HZ.out.1 HC0.out HQ.out).mono ?_); rintro e w1 ⟨rfl, hs⟩; have HS1 := Aside0.mk (HS.out.trans hs); clear hs)
        exact ⟨rfl, rfl, HS1.out⟩
      · have HQ := Aside0.mk hq
        have HP2 := Aside0.mk hp2
        clear hq hp2
        go_wp2_with (first
          | (go_at_call 46; (with_reducible refine (HAT.out.go HR.out HZ.out.1 HC0.out HQ.out).mono ?_); rintro e w1 ⟨q, rfl, h1, hs, ht⟩; have H1 := Aside0.mk ((Nat.add_assoc sz n m1) ▸ h1); have HS1 := Aside0.mk (HS.out.trans hs); have HT1 := Aside0.mk ht; have HB1 := Aside0.mk (HB.out.stp hs HBT.out); have HW1 := Aside0.mk (show wr.heap.size ≤ w1.heap.size from hs.size); clear h1 hs ht)
          | (go_at_call 36; (with_reducible refine (peek_no H1.out HP2.out).mono ?_); rintro e w3 ⟨rfl, hb⟩; have HS3 := Aside0.mk (HS1.out.trans (Stp.of (b := b) hb)); clear hb))
        exact ⟨rfl, rfl, HS3.out⟩
      · have HQ := Aside0.mk hq
        have HP2 := Aside0.mk hp2
        have HN := Aside0.mk hN
        have HLG := Aside0.mk ((long k1).1 hq)
        have HSG := Aside0.mk (show Rune c2 ∧ rl c2 = 1 from by rcases hsg with rfl | rfl | rfl <;> exact ⟨⟨by decide, by decide, by decide⟩, rfl⟩)
        have HSK := Aside0.mk (show j ≤ s.size → j + rl c2 ≤ s.size from fun hj => ((peek_rune hj hp2).resolve_left (by rcases hsg with rfl | rfl | rfl <;> decide)).2)
        have hsg' : (c2 == 42) = true ∨ ((c2 == 42) = false ∧ (c2 == 43) = true) ∨ ((c2 == 42) = false ∧ (c2 == 43) = false ∧ (c2 == 63) = true) := by rcases hsg with rfl | rfl | rfl <;> decide
        clear hq hp2 hN hsg
        cases hp3 : peekF s (j + 1) with
        | none =>
          have hR : R = .bad (j + 1) 8 := by
            cases k1 with
            | zero => exact absurd HN.out (by simp [brF])
            | succ k2 => rcases brF_head HN.out with ⟨_, h⟩ | ⟨c, h, _⟩; exact h; rw [hp3] at h; cases h
          subst hR
          have HP3 := Aside0.mk hp3
          clear hp3
          rcases hsg' with s1 | ⟨s1, s2⟩ | ⟨s1, s2, s3⟩
          all_goals
            go_wp2_with (first
              | (go_at_call 46; (with_reducible refine (HAT.out.go HR.out HZ.out.1 HC0.out HQ.out).mono ?_); rintro e w1 ⟨q, rfl, h1, hs, ht⟩; have H1 := Aside0.mk ((Nat.add_assoc sz n m1) ▸ h1); have HS1 := Aside0.mk (HS.out.trans hs); have HT1 := Aside0.mk ht; have HB1 := Aside0.mk (HB.out.stp hs HBT.out); have HW1 := Aside0.mk (show wr.heap.size ≤ w1.heap.size from hs.size); clear h1 hs ht)
              | (go_at_call 36; (with_reducible refine (peek_ok H1.out HP2.out).mono ?_); rintro e w2 ⟨rfl, hb⟩; have H2 := Aside0.mk (H1.out.below hb); have HS2 := Aside0.mk (HS1.out.trans (Stp.of (b := b) hb)); have HT2 := Aside0.mk (HT1.out.stp (Stp.of (b := b) hb) (Nat.lt_of_lt_of_le HBT.out HS.out.size)); have HB2 := Aside0.mk (HB1.out.below hb); have HW2 := Aside0.mk (Nat.le_trans HW1.out hb.size); clear hb)
              | (go_at_call 37; (with_reducible refine (skip_calls H2.out HSG.out.1 (HSK.out H2.out.le)).mono ?_); rintro e w3 ⟨rfl, h3, hs⟩; rw [HSG.out.2] at h3; have H3 := Aside0.mk h3; have HS3 := Aside0.mk (HS2.out.trans hs); have HT3 := Aside0.mk (HT2.out.stp hs (Nat.lt_of_lt_of_le HBT.out HS.out.size)); have HB3 := Aside0.mk (HB2.out.stp hs HBT.out); have HW13 := Aside0.mk (Nat.le_trans HW2.out hs.size); clear h3 hs)
              | ((with_reducible refine gate_dst (N := 44) rfl ?_); refine box_event ?hg (N := 44) ?hd (cs := (ndL 3 (.slice none 0 0) false false (.slice (some ⟨w3.heap.size, 0, none⟩) 1 1) c2).toArray) (t := 74) ?hr ?_; (case hd => rfl); (case hg => rfl); (case hr => first | (go_simp; done) | (go_simp; rfl)); intro Y hX w5 hx5 hb5; have HBA := below_alloc (Below.refl w3.heap.size w3) (.cells #[.pointer (some ⟨q, 0, none⟩)] 41); have HBB := HBA.trans (hb5.mono HBA.size); have H5 := Aside0.mk (H3.out.below HBB); have HS5 := Aside0.mk (HS3.out.trans (Stp.of (b := b) HBB)); have HT5 := Aside0.mk (HT3.out.again HW13.out HBB (by rw [hX]; exact HBA.size) ((hb5.block _ (blk_lt (blk_new _ _))).trans (blk_new _ _)) hx5); have HB5 := Aside0.mk (HB3.out.below HBB); clear HBA HBB; obtain ⟨x0, x1, x2, x3, x4, x5⟩ := nd_cell HB5.out.blk; have xf := nd_frozen HB5.out.blk 4; clear hX hx5 hb5)
              | ((with_reducible refine gate_builtin (b := .append) (xs := #[.tmp 49, .tmp 51]) rfl ?_); at_builtin; refine Kd.R_append kP (w0 := w5) w.heap.size rfl (.tmp 49) (.tmp 51) 72 41 (.pointer none) 8 rfl Tryd.underlying72 info41 rfl (by decide) (by omega) (.slice A m cc) bs Y [.pointer (some ⟨Y, 0, none⟩)] (fun q => w.heap.size ≤ q ∧ q ≠ X) (fun _ => False) rfl rfl ?aP (fun _ h => h.elim) ?aF ?aO ?aB ?aS ?aL ?_; (case aP => exact rfl); (case aF => exact (fun q hq => ⟨Nat.le_trans HS5.out.size hq, fun e => by have := blk_lt HB5.out.blk; omega⟩)); (case aO => exact HB5.out.row); (case aB => exact Below.refl _ _); (case aS => exact HS5.out.size); (case aL => have h1 := HZ.out; have h2 := H5.out.short; have h3 := HR.out.le; have h4 := HB.out.len; omega); intro v6 w6 ho hb6 hg6 hat6; obtain ⟨A6, c6, rfl⟩ := Kd.R_slice ho; have H6 := Aside0.mk (Rd.grown H5.out (fun q hq hq2 => hb6.block q (by have h1 := HBT.out; have h2 := HH.out.two; omega))); have HS6 := Aside0.mk (HS5.out.grown hb6 (Nat.le_refl _)); have HB6 := Aside0.mk (HB5.out.push (acc' := (.cat acc (.again p c2))) (m5 := bs.length + 1) ⟨rfl, rfl, rfl, rfl, rfl⟩ (fun h1 h2 h3 => ⟨_, _, _, rfl, h1, h2, h3⟩) HT5.out HS.out.size (blk_lt HB.out.blk) (fun g hg => Kd.R_lt HB.out.row g hg) ho hg6 hat6 (by rw [List.length_append, List.length_singleton])); clear x0 x1 x2 x3 x4 x5 xf; have x4 := (nd_cell (w := w6) (X := X) ((hg6.block X (blk_lt HB5.out.blk) (fun e => (HB5.out.row.1 X e.symm).2 rfl)).trans HB5.out.blk)).2.2.2.2.1; have xf := nd_frozen (w := w6) (X := X) ((hg6.block X (blk_lt HB5.out.blk) (fun e => (HB5.out.row.1 X e.symm).2 rfl)).trans HB5.out.blk) 4; clear ho hb6 hg6 hat6)
              | (go_at_call 36; (with_reducible refine (peek_no (Rd.far H6.out HXb.out HX2.out 4 _) HP3.out).mono ?_); rintro e w7 ⟨rfl, hb⟩; have HS7 := Aside0.mk ((HS6.out.far HB.out.le 4 _).trans (Stp.of (b := b) hb)); clear hb))
            exact ⟨rfl, rfl, HS7.out⟩
        | some c3 =>
          have HP3 := Aside0.mk hp3
          clear hp3
          rcases hsg' with s1 | ⟨s1, s2⟩ | ⟨s1, s2, s3⟩
          all_goals
            go_wp2_with (first
              | (go_at_call 46; (with_reducible refine (HAT.out.go HR.out HZ.out.1 HC0.out HQ.out).mono ?_); rintro e w1 ⟨q, rfl, h1, hs, ht⟩; have H1 := Aside0.mk ((Nat.add_assoc sz n m1) ▸ h1); have HS1 := Aside0.mk (HS.out.trans hs); have HT1 := Aside0.mk ht; have HB1 := Aside0.mk (HB.out.stp hs HBT.out); have HW1 := Aside0.mk (show wr.heap.size ≤ w1.heap.size from hs.size); clear h1 hs ht)
              | (go_at_call 36; (with_reducible refine (peek_ok H1.out HP2.out).mono ?_); rintro e w2 ⟨rfl, hb⟩; have H2 := Aside0.mk (H1.out.below hb); have HS2 := Aside0.mk (HS1.out.trans (Stp.of (b := b) hb)); have HT2 := Aside0.mk (HT1.out.stp (Stp.of (b := b) hb) (Nat.lt_of_lt_of_le HBT.out HS.out.size)); have HB2 := Aside0.mk (HB1.out.below hb); have HW2 := Aside0.mk (Nat.le_trans HW1.out hb.size); clear hb)
              | (go_at_call 37; (with_reducible refine (skip_calls H2.out HSG.out.1 (HSK.out H2.out.le)).mono ?_); rintro e w3 ⟨rfl, h3, hs⟩; rw [HSG.out.2] at h3; have H3 := Aside0.mk h3; have HS3 := Aside0.mk (HS2.out.trans hs); have HT3 := Aside0.mk (HT2.out.stp hs (Nat.lt_of_lt_of_le HBT.out HS.out.size)); have HB3 := Aside0.mk (HB2.out.stp hs HBT.out); have HW13 := Aside0.mk (Nat.le_trans HW2.out hs.size); clear h3 hs)
              | ((with_reducible refine gate_dst (N := 44) rfl ?_); refine box_event ?hg (N := 44) ?hd (cs := (ndL 3 (.slice none 0 0) false false (.slice (some ⟨w3.heap.size, 0, none⟩) 1 1) c2).toArray) (t := 74) ?hr ?_; (case hd => rfl); (case hg => rfl); (case hr => first | (go_simp; done) | (go_simp; rfl)); intro Y hX w5 hx5 hb5; have HBA := below_alloc (Below.refl w3.heap.size w3) (.cells #[.pointer (some ⟨q, 0, none⟩)] 41); have HBB := HBA.trans (hb5.mono HBA.size); have H5 := Aside0.mk (H3.out.below HBB); have HS5 := Aside0.mk (HS3.out.trans (Stp.of (b := b) HBB)); have HT5 := Aside0.mk (HT3.out.again HW13.out HBB (by rw [hX]; exact HBA.size) ((hb5.block _ (blk_lt (blk_new _ _))).trans (blk_new _ _)) hx5); have HB5 := Aside0.mk (HB3.out.below HBB); clear HBA HBB; obtain ⟨x0, x1, x2, x3, x4, x5⟩ := nd_cell HB5.out.blk; have xf := nd_frozen HB5.out.blk 4; clear hX hx5 hb5)
              | ((with_reducible refine gate_builtin (b := .append) (xs := #[.tmp 49, .tmp 51]) rfl ?_); at_builtin; refine Kd.R_append kP (w0 := w5) w.heap.size rfl (.tmp 49) (.tmp 51) 72 41 (.pointer none) 8 rfl Tryd.underlying72 info41 rfl (by decide) (by omega) (.slice A m cc) bs Y [.pointer (some ⟨Y, 0, none⟩)] (fun q => w.heap.size ≤ q ∧ q ≠ X) (fun _ => False) rfl rfl ?aP (fun _ h => h.elim) ?aF ?aO ?aB ?aS ?aL ?_; (case aP => exact rfl); (case aF => exact (fun q hq => ⟨Nat.le_trans HS5.out.size hq, fun e => by have := blk_lt HB5.out.blk; omega⟩)); (case aO => exact HB5.out.row); (case aB => exact Below.refl _ _); (case aS => exact HS5.out.size); (case aL => have h1 := HZ.out; have h2 := H5.out.short; have h3 := HR.out.le; have h4 := HB.out.len; omega); intro v6 w6 ho hb6 hg6 hat6; obtain ⟨A6, c6, rfl⟩ := Kd.R_slice ho; have H6 := Aside0.mk (Rd.grown H5.out (fun q hq hq2 => hb6.block q (by have h1 := HBT.out; have h2 := HH.out.two; omega))); have HS6 := Aside0.mk (HS5.out.grown hb6 (Nat.le_refl _)); have HB6 := Aside0.mk (HB5.out.push (acc' := (.cat acc (.again p c2))) (m5 := bs.length + 1) ⟨rfl, rfl, rfl, rfl, rfl⟩ (fun h1 h2 h3 => ⟨_, _, _, rfl, h1, h2, h3⟩) HT5.out HS.out.size (blk_lt HB.out.blk) (fun g hg => Kd.R_lt HB.out.row g hg) ho hg6 hat6 (by rw [List.length_append, List.length_singleton])); clear x0 x1 x2 x3 x4 x5 xf; have x4 := (nd_cell (w := w6) (X := X) ((hg6.block X (blk_lt HB5.out.blk) (fun e => (HB5.out.row.1 X e.symm).2 rfl)).trans HB5.out.blk)).2.2.2.2.1; have xf := nd_frozen (w := w6) (X := X) ((hg6.block X (blk_lt HB5.out.blk) (fun e => (HB5.out.row.1 X e.symm).2 rfl)).trans HB5.out.blk) 4; clear ho hb6 hg6 hat6)
              | (go_at_call 36; (with_reducible refine (peek_ok (Rd.far H6.out HXb.out HX2.out 4 _) HP3.out).mono ?_); rintro e w7 ⟨rfl, hb⟩; have H7 := Aside0.mk ((Rd.far H6.out HXb.out HX2.out 4 _).below hb); have HS7 := Aside0.mk ((HS6.out.far HB.out.le 4 _).trans (Stp.of (b := b) hb)); have HB7 := Aside0.mk (Bld.below HB6.out (by first | exact hb | (rw [HLN.out]; exact hb))); clear hb x4 xf))
            go_roundg k1
            case measure => omega
            case rel => exact ⟨j + 1, c3, _, n + m1, _, A6, bs.length + 1, c6, rfl, HP3, ⟨HN.out, by have := HF.out.2; omega⟩, ⟨H7.out⟩, ⟨HS7.out⟩, ⟨HB7.out⟩, ⟨by have h1 := HZ.out; have h2 := HLG.out; omega, by have h1 := HZ.out; have h2 := HLG.out; have h3 := HB.out.len; omega⟩⟩
      · have HQ := Aside0.mk hq
        have HP2 := Aside0.mk hp2
        have HN := Aside0.mk hN
        have HLG := Aside0.mk ((long k1).1 hq)
        clear hq hp2 hN
        go_wp2_with (first
          | (go_at_call 46; (with_reducible refine (HAT.out.go HR.out HZ.out.1 HC0.out HQ.out).mono ?_); rintro e w1 ⟨q, rfl, h1, hs, ht⟩; have H1 := Aside0.mk ((Nat.add_assoc sz n m1) ▸ h1); have HS1 := Aside0.mk (HS.out.trans hs); have HT1 := Aside0.mk ht; have HB1 := Aside0.mk (HB.out.stp hs HBT.out); have HW1 := Aside0.mk (show wr.heap.size ≤ w1.heap.size from hs.size); clear h1 hs ht)
          | (go_at_call 36; (with_reducible refine (peek_ok H1.out HP2.out).mono ?_); rintro e w2 ⟨rfl, hb⟩; have H2 := Aside0.mk (H1.out.below hb); have HS2 := Aside0.mk (HS1.out.trans (Stp.of (b := b) hb)); have HT2 := Aside0.mk (HT1.out.stp (Stp.of (b := b) hb) (Nat.lt_of_lt_of_le HBT.out HS.out.size)); have HB2 := Aside0.mk (HB1.out.below hb); have HW2 := Aside0.mk (Nat.le_trans HW1.out hb.size); clear hb; obtain ⟨x0, x1, x2, x3, x4, x5⟩ := nd_cell HB2.out.blk; have xf := nd_frozen HB2.out.blk 4)
          | ((with_reducible refine gate_builtin (b := .append) (xs := #[.tmp 49, .tmp 51]) rfl ?_); at_builtin; refine Kd.R_append kP (w0 := w2) w.heap.size rfl (.tmp 49) (.tmp 51) 72 41 (.pointer none) 8 rfl Tryd.underlying72 info41 rfl (by decide) (by omega) (.slice A m cc) bs q [.pointer (some ⟨q, 0, none⟩)] (fun q => w.heap.size ≤ q ∧ q ≠ X) (fun _ => False) rfl rfl ?aP (fun _ h => h.elim) ?aF ?aO ?aB ?aS ?aL ?_; (case aP => exact rfl); (case aF => exact (fun q hq => ⟨Nat.le_trans HS2.out.size hq, fun e => by have := blk_lt HB2.out.blk; omega⟩)); (case aO => exact HB2.out.row); (case aB => exact Below.refl _ _); (case aS => exact HS2.out.size); (case aL => have h1 := HZ.out; have h2 := H2.out.short; have h3 := HR.out.le; have h4 := HB.out.len; omega); intro v6 w6 ho hb6 hg6 hat6; obtain ⟨A6, c6, rfl⟩ := Kd.R_slice ho; have H6 := Aside0.mk (Rd.grown H2.out (fun q hq hq2 => hb6.block q (by have h1 := HBT.out; have h2 := HH.out.two; omega))); have HS6 := Aside0.mk (HS2.out.grown hb6 (Nat.le_refl _)); have HB6 := Aside0.mk (HB2.out.push (acc' := (.cat acc p)) (m5 := bs.length + 1) ⟨rfl, rfl, rfl, rfl, rfl⟩ (fun h1 h2 h3 => ⟨_, _, _, rfl, h1, h2, h3⟩) HT2.out HS.out.size (blk_lt HB.out.blk) (fun g hg => Kd.R_lt HB.out.row g hg) ho hg6 hat6 (by rw [List.length_append, List.length_singleton])); clear x0 x1 x2 x3 x4 x5 xf; have x4 := (nd_cell (w := w6) (X := X) ((hg6.block X (blk_lt HB2.out.blk) (fun e => (HB2.out.row.1 X e.symm).2 rfl)).trans HB2.out.blk)).2.2.2.2.1; have xf := nd_frozen (w := w6) (X := X) ((hg6.block X (blk_lt HB2.out.blk) (fun e => (HB2.out.row.1 X e.symm).2 rfl)).trans HB2.out.blk) 4; clear ho hb6 hg6 hat6)
          | (go_at_call 36; (with_reducible refine (peek_ok (Rd.far H6.out HXb.out HX2.out 4 _) HP2.out).mono ?_); rintro e w7 ⟨rfl, hb⟩; have H7 := Aside0.mk ((Rd.far H6.out HXb.out HX2.out 4 _).below hb); have HS7 := Aside0.mk ((HS6.out.far HB.out.le 4 _).trans (Stp.of (b := b) hb)); have HB7 := Aside0.mk (Bld.below HB6.out (by first | exact hb | (rw [HLN.out]; exact hb))); clear hb x4 xf))
        go_roundg k1
        case measure => omega
        case rel => exact ⟨j, c2, _, n + m1, _, A6, bs.length + 1, c6, rfl, HP2, ⟨HN.out, by have := HF.out.2; omega⟩, ⟨H7.out⟩, ⟨HS7.out⟩, ⟨HB7.out⟩, ⟨by have h1 := HZ.out; have h2 := HLG.out; omega, by have h1 := HZ.out; have h2 := HLG.out; have h3 := HB.out.len; omega⟩⟩
end Go.Proofs.YtmfpikhmeacnbaaDoor.X

/- Patterns by hand: pattern, and all of them (mkX9.py). -/
namespace Go.Proofs.YtmfpikhmeacnbaaDoor.X
open Go.RowKit Go.Proofs.YtmfpikhmeacnbaaDoor.Q Go.Proofs.YtmfpikhmeacnbaaDoorW.PrintWords Go.Proofs.YtmfpikhmeacnbaaDoorW.PrintLast Go.Proofs.YtmfpikhmeacnbaaDoorW.PrintMore
set_option linter.unusedVariables false
set_option linter.unusedSimpArgs false
theorem kP_mk2 {w1 : World} {B q b : Nat} {ok : Nat → Prop} (hb : B ≤ b) (ho : ok b) (h : w1.heap[b]? = some (.cells #[.pointer (some ⟨q, 0, none⟩)] 41 (0, 0))) : kP.R 41 w1 B ok (.slice (some ⟨b, 0, none⟩) 1 1) [q] := by
  refine ⟨fun k hk => by have e : b = k := by simpa [Value.ownBlock] using hk
                         rw [← e]; exact ho, [.pointer (some ⟨q, 0, none⟩)], ?_, ?_⟩
  · exact ⟨rfl, .inr ⟨b, 1, _, rfl, hb, h, Nat.le_refl _, by unfold maxLen; omega, rfl, rfl⟩⟩
  · exact ⟨rfl, fun j p hj => by
      match j, hj with
      | 0, hj => cases hj; rfl⟩
theorem Bld.start {w4 w5 : World} {n q X : Nat} {p : Pt} (h : Tr w4 n (fun k => n ≤ k) q p) (hn : n ≤ w4.heap.size) (hb : Below w4.heap.size w4 w5) (hY : w4.heap.size < X)
    (hS : w5.heap[w4.heap.size]? = some (.cells #[.pointer (some ⟨q, 0, none⟩)] 41 (0, 0))) (hx : w5.heap[X]? = some (.cells (ndL 2 (.slice none 0 0) false false (.slice (some ⟨w4.heap.size, 0, none⟩) 1 1) 0).toArray 74 (0, 0))) :
    Bld n w5 X 2 (.alt1 p) [q] (some ⟨w4.heap.size, 0, none⟩) 1 1 := by
  obtain ⟨cs, h1, h2⟩ := h
  have hm : ∀ k, n ≤ k → k < w4.heap.size → n ≤ k → (n ≤ k ∧ k ≠ X ∧ some k ≠ (Value.slice (some ⟨w4.heap.size, 0, none⟩) 1 1).ownBlock) ∧ w5.heap[k]? = w4.heap[k]? := fun k hk hl ho => ⟨⟨ho, by omega, fun e => by
    have e' : w4.heap.size = k := by simpa [Value.ownBlock] using e.symm
    omega⟩, hb.block k hl⟩
  exact ⟨hx, kP_mk2 hn ⟨hn, by omega⟩ hS, ⟨q, cs, rfl, TT.turn (Nat.le_refl _) hm h1, h2.turn (Nat.le_refl _) hm⟩, ⟨rfl, rfl, rfl, rfl, rfl⟩, by omega⟩
def pat.T4 : Bool × List (List Nat × List Nat) := (true, [([], []), ([], []), ([1], [1]), ([2], [2]), ([3], [3]), ([], []), ([5], [5]), ([6], [6]), ([4, 7, 6], [4, 7]), ([0, 0, 1, 2, 3, 4, 5, 6, 7, 8], [0]), ([9, 0, 1, 2, 3, 4, 5, 6, 7, 8], [9]), ([10, 8, 8, 0, 1, 2, 3, 4, 5, 6, 7, 8], [8, 10])])
def pat.B4 : List Nat := [0, 0, 2, 6, 14, 0, 32, 96, 254, 511, 1023, 2047]
theorem pat.tab4 : rtab .any (opsOf Tryd.f22 4) = pat.T4 := by kernel_rfl
theorem pat.bits4 : waitsOk pat.T4.2 pat.B4 = true := by kernel_rfl
set_option maxHeartbeats 4000000 in
set_option maxRecDepth 100000 in
theorem pattern_calls {s : ByteArray} {k : Nat} (BR : ∀ k', k' < k → BrOk s k') {w : World} {b i d sz : Nat} (h : Rd w b s i d sz) (hz : sz ≤ i) {R : Res (Pt × Nat)} (hf : paF k s d i = some R) : Calls Tryd.prog 22 #[.pointer (some ⟨b, 0, none⟩)] w (PostP b s d sz w R) := by
  have HBT := Aside0.mk (show b < w.heap.size from h.lt)
  cases k with
  | zero => simp [paF] at hf
  | succ k =>
  have HBR0 := Aside0.mk (BR k (Nat.lt_succ_self _))
  have BR := Aside0.mk BR
  have HH := Aside0.mk h
  have HSZ := Aside0.mk hz
  rcases paF_head hf with ⟨a1, e1, hq, rfl⟩ | ⟨p, m1, j, hq, hN⟩
  · have HQ := Aside0.mk hq
    clear hq h hz hf
    go_enter Tryd.func22, Tryd.ntmps22
    go_wp2_with (go_at_call 35; (with_reducible refine (HBR0.out.go HH.out HSZ.out HQ.out).mono ?_); rintro e w1 ⟨rfl, hs⟩; have HS1 := Aside0.mk hs; clear hs)
    exact ⟨rfl, rfl, HS1.out⟩
  have HQ := Aside0.mk hq
  have HN := Aside0.mk hN
  have HLG := Aside0.mk ((long k).2.1 hq)
  clear hq hN h hz hf
  go_enter Tryd.func22, Tryd.ntmps22
  go_wp2_with (first
    | (go_at_call 35; (with_reducible refine (HBR0.out.go HH.out HSZ.out HQ.out).mono ?_); rintro e w1 ⟨q, rfl, h1, hs, ht⟩; have H1 := Aside0.mk h1; have HS1 := Aside0.mk hs; have HT1 := Aside0.mk ht; clear h1 hs ht)
    | ((with_reducible refine gate_dst (N := 8) rfl ?_); refine box_event ?hg (N := 8) ?hd (cs := (ndL 2 (.slice none 0 0) false false (.slice (some ⟨w1.heap.size, 0, none⟩) 1 1) 0).toArray) (t := 74) ?hr ?_; (case hd => rfl); (case hg => rfl); (case hr => first | (go_simp; done) | (go_simp; rfl)); intro X hX w2 hx5 hb5; have HBA := below_alloc (Below.refl w1.heap.size w1) (.cells #[.pointer (some ⟨q, 0, none⟩)] 41); have HBB := HBA.trans (hb5.mono HBA.size); have H2 := Aside0.mk (H1.out.below HBB); have HS2 := Aside0.mk (HS1.out.trans (Stp.of (b := b) HBB)); have HB2 := Aside0.mk (Bld.start HT1.out HS1.out.size HBB (by rw [hX]; simp) ((hb5.block _ (blk_lt (blk_new _ _))).trans (blk_new _ _)) hx5); clear HBA HBB; clear hX hx5 hb5))
  try go_frame
  clear H1 HS1 HT1
  go_loopg [] k (fun kq wr => ∃ (i2 : Nat) (acc : Pt) (n : Nat) (bs : List Nat) (A : Option Addr) (m cc : Nat), Aside0 (altF kq s d i2 acc n = some R ∧ kq ≤ k) ∧ Aside0 (Rd wr b s i2 d (sz + n)) ∧ Aside0 (Stp b w wr) ∧ Aside0 (Bld w.heap.size wr X 2 acc bs A m cc) ∧ Aside0 (sz + n ≤ i2 ∧ m ≤ i2 + 1))
  case atStart => exact ⟨j, .alt1 p, m1, [q], _, 1, 1, ⟨HN.out, Nat.le_refl _⟩, H2, HS2, HB2, ⟨by have h1 := HSZ.out; have h2 := HLG.out; omega, by omega⟩⟩
  case round =>
    clear H2 HS2 HB2 HN HQ HLG
    obtain ⟨i2, acc, n, bs, A, m, cc, HF, HR, HS, HB, HZ⟩ := hrel
    cases gk with
    | zero => exact absurd HF.out.1 (by simp [altF])
    | succ k1 =>
    have hd := altF_head HF.out.1
    have HBR := Aside0.mk (BR.out k1 (by have := HF.out.2; omega))
    have HX2 := Aside0.mk (show 2 ≤ X by have h1 := HR.out.two; have h2 := HB.out.le; have h3 := HBT.out; omega)
    have HXb := Aside0.mk (show X ≠ b by have h2 := HB.out.le; have h3 := HBT.out; omega)
    rcases hd with ⟨hp, rfl⟩ | ⟨c, hp, hc, rfl⟩ | ⟨hp, a1, e1, hq, rfl⟩ | ⟨hp, p1, m1, j1, hq, hN⟩
    · have HP := Aside0.mk hp
      clear hp
      go_wp2_with (go_at_call 36; (with_reducible refine (peek_no HR.out HP.out).mono ?_); rintro e w1 ⟨rfl, hb⟩; have HS1 := Aside0.mk (HS.out.trans (Stp.of (b := b) hb)); clear hb)
      exact ⟨rfl, rfl, HS1.out⟩
    · have HP := Aside0.mk hp
      clear hp
      go_wp2_with (go_at_call 36; (with_reducible refine (peek_ok HR.out HP.out).mono ?_); rintro e w1 ⟨rfl, hb⟩; have H1 := Aside0.mk (HR.out.below hb); have HS1 := Aside0.mk (HS.out.trans (Stp.of (b := b) hb)); have HB1 := Aside0.mk (HB.out.below hb); clear hb)
      go_ret
      exact ⟨X, rfl, H1.out, HS1.out, HB1.out.tr⟩
    · have HP := Aside0.mk hp
      have HC := Aside0.mk (show i2 + rl 124 ≤ s.size from ((peek_rune HR.out.le hp).resolve_left (by decide)).2)
      have HQ := Aside0.mk hq
      clear hp hq
      go_wp2_with (first
        | (go_at_call 36; (with_reducible refine (peek_ok HR.out HP.out).mono ?_); rintro e w1 ⟨rfl, hb⟩; have H1 := Aside0.mk (HR.out.below hb); have HS1 := Aside0.mk (HS.out.trans (Stp.of (b := b) hb)); have HB1 := Aside0.mk (HB.out.below hb); clear hb)
        | (go_at_call 37; (with_reducible refine (skip_calls H1.out rune124 HC.out).mono ?_); rintro e w2 ⟨rfl, h2, hs⟩; have H2 := Aside0.mk (show Rd w2 b s (i2 + 1) d (sz + n) from h2); have HS2 := Aside0.mk (HS1.out.trans hs); have HB2 := Aside0.mk (HB1.out.stp hs HBT.out); clear h2 hs))
      refine start_ (n := 12) (S := fun w' => w'.cell? ⟨X, 4, none⟩ = some (.slice A m cc)) (ds := [11]) #[false, false, false, false, false, false, false, false, false, false, false, false] (by kernel_rfl) rfl rfl (nd_cell (HB2.out.below (below_drew1 (Below.refl w2.heap.size w2))).blk).2.2.2.2.1 (fun hHeld => ?_); refine with_tabW pat.tab4 pat.bits4 (fun HT_ HW_ => ?_)
      have H5 := Aside0.mk (H2.out.below (below_drew1 (Below.refl _ _)))
      have HS5 := Aside0.mk (HS2.out.trans (Stp.of (b := b) (below_drew1 (Below.refl _ _))))
      have HB5 := Aside0.mk (HB2.out.below (below_drew1 (Below.refl _ _)))
      generalize w2.drew = W5 at *
      refine pure_ (i := 0) (N := some 14) (v := ?_) (a' := ?_) #[true, false, false, false, false, false, false, false, false, false, false, false] rfl rfl (any_of HT_.out (by kernel_rfl)) (fun _ _ _ h => h) (Or.inl ⟨by rfl, ?_⟩) ?_ ?_
      rotate_left
      · intro w'
        go_simp
        with_reducible rfl
      rotate_left
      · simp only [Act.put, List.setIfInBounds_toArray, List.set_cons_zero, List.set_cons_succ, i64_w, i32_w, xu32_w, xu8_w]
        rfl
      refine pure_ (i := 1) (N := some 15) (v := ?_) (a' := ?_) #[true, true, false, false, false, false, false, false, false, false, false, false] rfl rfl (any_of HT_.out (by kernel_rfl)) (fun _ _ _ h => h) (Or.inl ⟨by rfl, ?_⟩) ?_ ?_
      rotate_left
      · intro w'
        go_simp
        with_reducible rfl
      rotate_left
      · simp only [Act.put, List.setIfInBounds_toArray, List.set_cons_zero, List.set_cons_succ, i64_w, i32_w, xu32_w, xu8_w]
        rfl
      refine pure_ (i := 2) (N := some 16) (v := ?_) (a' := ?_) #[true, true, true, false, false, false, false, false, false, false, false, false] rfl rfl (any_of HT_.out (by kernel_rfl)) (fun _ _ _ h => h) (Or.inl ⟨by rfl, ?_⟩) ?_ ?_
      rotate_left
      · intro w'
        go_simp
        with_reducible rfl
      rotate_left
      · simp only [Act.put, List.setIfInBounds_toArray, List.set_cons_zero, List.set_cons_succ, i64_w, i32_w, xu32_w, xu8_w]
        rfl
      refine pure_ (i := 3) (N := some 17) (v := ?_) (a' := ?_) #[true, true, true, true, false, false, false, false, false, false, false, false] rfl rfl (any_of HT_.out (by kernel_rfl)) (fun _ _ _ h => h) (Or.inl ⟨by rfl, ?_⟩) ?_ ?_
      rotate_left
      · intro w'
        go_simp
        with_reducible rfl
      rotate_left
      · simp only [Act.put, List.setIfInBounds_toArray, List.set_cons_zero, List.set_cons_succ, i64_w, i32_w, xu32_w, xu8_w]
        rfl
      refine pure_ (i := 5) (N := some 19) (v := ?_) (a' := ?_) #[true, true, true, true, false, true, false, false, false, false, false, false] rfl rfl (any_of HT_.out (by kernel_rfl)) (fun _ _ _ h => h) (Or.inl ⟨by rfl, ?_⟩) ?_ ?_
      rotate_left
      · intro w'
        go_simp
        with_reducible rfl
      rotate_left
      · simp only [Act.put, List.setIfInBounds_toArray, List.set_cons_zero, List.set_cons_succ, i64_w, i32_w, xu32_w, xu8_w]
        rfl
      refine take_ (i := 4) (N := some 18) (v := ?_) (a' := ?_) #[true, true, true, true, true, true, false, false, false, false, false, false] rfl rfl (take_ofW HT_.out HW_.out (by kernel_rfl)) (fun _ _ _ h => h) (Or.inl ⟨by rfl, ?_⟩) hHeld ?_ ?_
      rotate_left
      · rintro w' s0
        go_simp
        with_reducible rfl
      rotate_left
      · simp only [Act.put, List.setIfInBounds_toArray, List.set_cons_zero, List.set_cons_succ, i64_w, i32_w, xu32_w, xu8_w]
        rfl
      refine one_ (i := 6) (N := some 20) #[true, true, true, true, true, true, true, false, false, false, false, false] rfl rfl (one_of HT_.out (by kernel_rfl)) (by decide) (fun K hK => ?_)
      refine goesP_ Tryd.func35 (by kernel_rfl) rfl #[.pointer (some ⟨b, 0, none⟩)] (by rfl) rfl rfl (by (try simp only [List.map_toArray, List.map_cons, List.map_nil]); first | done | rfl) ?_
      with_reducible refine (HBR.out.go H5.out (Nat.le_succ_of_le HZ.out.1) HQ.out).mono ?_
      rintro e w6 ⟨rfl, hs⟩
      exact ⟨_, rfl, rfl, rfl, HS5.out.trans hs⟩
    · have HP := Aside0.mk hp
      have HC := Aside0.mk (show i2 + rl 124 ≤ s.size from ((peek_rune HR.out.le hp).resolve_left (by decide)).2)
      have HQ := Aside0.mk hq
      have HN := Aside0.mk hN
      have HLG := Aside0.mk ((long k1).2.1 hq)
      clear hp hq hN
      go_wp2_with (first
        | (go_at_call 36; (with_reducible refine (peek_ok HR.out HP.out).mono ?_); rintro e w1 ⟨rfl, hb⟩; have H1 := Aside0.mk (HR.out.below hb); have HS1 := Aside0.mk (HS.out.trans (Stp.of (b := b) hb)); have HB1 := Aside0.mk (HB.out.below hb); clear hb)
        | (go_at_call 37; (with_reducible refine (skip_calls H1.out rune124 HC.out).mono ?_); rintro e w2 ⟨rfl, h2, hs⟩; have H2 := Aside0.mk (show Rd w2 b s (i2 + 1) d (sz + n) from h2); have HS2 := Aside0.mk (HS1.out.trans hs); have HB2 := Aside0.mk (HB1.out.stp hs HBT.out); clear h2 hs))
      refine start_ (n := 12) (S := fun w' => w'.cell? ⟨X, 4, none⟩ = some (.slice A m cc)) (ds := [11]) #[false, false, false, false, false, false, false, false, false, false, false, false] (by kernel_rfl) rfl rfl (nd_cell (HB2.out.below (below_drew1 (Below.refl w2.heap.size w2))).blk).2.2.2.2.1 (fun hHeld => ?_); refine with_tabW pat.tab4 pat.bits4 (fun HT_ HW_ => ?_)
      have H5 := Aside0.mk (H2.out.below (below_drew1 (Below.refl _ _)))
      have HS5 := Aside0.mk (HS2.out.trans (Stp.of (b := b) (below_drew1 (Below.refl _ _))))
      have HB5 := Aside0.mk (HB2.out.below (below_drew1 (Below.refl _ _)))
      generalize w2.drew = W5 at *
      refine pure_ (i := 0) (N := some 14) (v := ?_) (a' := ?_) #[true, false, false, false, false, false, false, false, false, false, false, false] rfl rfl (any_of HT_.out (by kernel_rfl)) (fun _ _ _ h => h) (Or.inl ⟨by rfl, ?_⟩) ?_ ?_
      rotate_left
      · intro w'
        go_simp
        with_reducible rfl
      rotate_left
      · simp only [Act.put, List.setIfInBounds_toArray, List.set_cons_zero, List.set_cons_succ, i64_w, i32_w, xu32_w, xu8_w]
        rfl
      refine pure_ (i := 1) (N := some 15) (v := ?_) (a' := ?_) #[true, true, false, false, false, false, false, false, false, false, false, false] rfl rfl (any_of HT_.out (by kernel_rfl)) (fun _ _ _ h => h) (Or.inl ⟨by rfl, ?_⟩) ?_ ?_
      rotate_left
      · intro w'
        go_simp
        with_reducible rfl
      rotate_left
      · simp only [Act.put, List.setIfInBounds_toArray, List.set_cons_zero, List.set_cons_succ, i64_w, i32_w, xu32_w, xu8_w]
        rfl
      refine pure_ (i := 2) (N := some 16) (v := ?_) (a' := ?_) #[true, true, true, false, false, false, false, false, false, false, false, false] rfl rfl (any_of HT_.out (by kernel_rfl)) (fun _ _ _ h => h) (Or.inl ⟨by rfl, ?_⟩) ?_ ?_
      rotate_left
      · intro w'
        go_simp
        with_reducible rfl
      rotate_left
      · simp only [Act.put, List.setIfInBounds_toArray, List.set_cons_zero, List.set_cons_succ, i64_w, i32_w, xu32_w, xu8_w]
        rfl
      refine pure_ (i := 3) (N := some 17) (v := ?_) (a' := ?_) #[true, true, true, true, false, false, false, false, false, false, false, false] rfl rfl (any_of HT_.out (by kernel_rfl)) (fun _ _ _ h => h) (Or.inl ⟨by rfl, ?_⟩) ?_ ?_
      rotate_left
      · intro w'
        go_simp
        with_reducible rfl
      rotate_left
      · simp only [Act.put, List.setIfInBounds_toArray, List.set_cons_zero, List.set_cons_succ, i64_w, i32_w, xu32_w, xu8_w]
        rfl
      refine pure_ (i := 5) (N := some 19) (v := ?_) (a' := ?_) #[true, true, true, true, false, true, false, false, false, false, false, false] rfl rfl (any_of HT_.out (by kernel_rfl)) (fun _ _ _ h => h) (Or.inl ⟨by rfl, ?_⟩) ?_ ?_
      rotate_left
      · intro w'
        go_simp
        with_reducible rfl
      rotate_left
      · simp only [Act.put, List.setIfInBounds_toArray, List.set_cons_zero, List.set_cons_succ, i64_w, i32_w, xu32_w, xu8_w]
        rfl
      refine take_ (i := 4) (N := some 18) (v := ?_) (a' := ?_) #[true, true, true, true, true, true, false, false, false, false, false, false] rfl rfl (take_ofW HT_.out HW_.out (by kernel_rfl)) (fun _ _ _ h => h) (Or.inl ⟨by rfl, ?_⟩) hHeld ?_ ?_
      rotate_left
      · rintro w' s0
        go_simp
        with_reducible rfl
      rotate_left
      · simp only [Act.put, List.setIfInBounds_toArray, List.set_cons_zero, List.set_cons_succ, i64_w, i32_w, xu32_w, xu8_w]
        rfl
      refine one_ (i := 6) (N := some 20) #[true, true, true, true, true, true, true, false, false, false, false, false] rfl rfl (one_of HT_.out (by kernel_rfl)) (by decide) (fun K hK => ?_)
      refine goes_ Tryd.func35 (by kernel_rfl) rfl #[.pointer (some ⟨b, 0, none⟩)] (by rfl) rfl rfl (by (try simp only [List.map_toArray, List.map_cons, List.map_nil]); first | done | rfl) ?_
      with_reducible refine (HBR.out.go H5.out (Nat.le_succ_of_le HZ.out.1) HQ.out).mono ?_
      rintro e w6 ⟨q, rfl, h6, hs, ht⟩
      refine ⟨_, rfl, ?_⟩
      have H6 : Aside0 (Rd w6 b s j1 d (sz + (n + m1))) := ⟨(Nat.add_assoc sz n m1) ▸ h6⟩
      have HS6 := Aside0.mk (HS5.out.trans hs)
      have HB6 := Aside0.mk (HB5.out.stp hs HBT.out)
      have HT6 := Aside0.mk ht
      have HWZ := Aside0.mk (show W5.heap.size ≤ w6.heap.size from hs.size)
      clear h6 hs ht
      refine hK.out _ _ (nd_cell HB6.out.blk).2.2.2.2.1 (fun hHeld => ?_)
      clear hK K
      refine norm_ (a' := ?_) ?_ ?_
      rotate_left
      · show Act.put _ (some 20) _ = _
        simp only [Act.put, List.setIfInBounds_toArray, List.set_cons_zero, List.set_cons_succ, i64_w, i32_w, xu32_w, xu8_w]
        rfl
      refine one_ (i := 7) (N := some 21) #[true, true, true, true, true, true, true, true, false, false, false, false] rfl rfl (one_of HT_.out (by kernel_rfl)) (by decide) (fun K hK => ?_)
      refine value_ (v := .slice (some ⟨w6.heap.size, 0, none⟩) 1 1) (w1 := w6.alloc (.cells #[.pointer (some ⟨q, 0, none⟩)] 41)) (by rfl) rfl (by first | (go_simp; done) | (go_simp; rfl)) ?_
      refine hK.out _ _ (nd_cell (blk_alloc HB6.out.blk _)).2.2.2.2.1 (fun hHeld => ?_)
      clear hK K
      refine norm_ (a' := ?_) ?_ ?_
      rotate_left
      · show Act.put _ (some 21) _ = _
        simp only [Act.put, List.setIfInBounds_toArray, List.set_cons_zero, List.set_cons_succ, i64_w, i32_w, xu32_w, xu8_w]
        rfl
      refine one_ (i := 8) (N := some 22) #[true, true, true, true, true, true, true, true, true, false, false, false] rfl rfl (one_of HT_.out (by kernel_rfl)) (by decide) (fun K hK => ?_)
      refine Kd.R_append_step kP (w0 := w6) w.heap.size (by rfl) (.tmp 18) (.tmp 21) 72 41 (.pointer none) 8 rfl Tryd.underlying72 info41 rfl (by decide) (by omega) (.slice A m cc) bs q [.pointer (some ⟨q, 0, none⟩)] (fun q => w.heap.size ≤ q ∧ q ≠ X) (fun _ => False) rfl rfl ?aP (fun _ h => h.elim) ?aF ?aO ?aB ?aS ?aL ?_
      (case aP => exact rfl)
      (case aF => exact (fun q hq => ⟨Nat.le_trans HS6.out.size hq, fun e => by have := blk_lt HB6.out.blk; omega⟩))
      (case aO => exact HB6.out.row)
      (case aB => exact Below.refl _ _)
      (case aS => exact HS6.out.size)
      (case aL => have h1 := HZ.out; have h2 := H6.out.short; have h3 := HR.out.le; have h4 := HB.out.len; omega)
      intro v7 w7 ho hb7 hg7 hat7
      obtain ⟨A7, c7, rfl⟩ := Kd.R_slice ho
      have H7 := Aside0.mk (Rd.grown H6.out (fun q hq hq2 => hb7.block q (by have h1 := HBT.out; have h2 := HH.out.two; omega)))
      have HS7 := Aside0.mk (HS6.out.grown hb7 (Nat.le_refl _))
      have HB7 := Aside0.mk (HB6.out.push (acc' := .alt acc p1) (m5 := bs.length + 1) ⟨rfl, rfl, rfl, rfl, rfl⟩ (fun h1 h2 h3 => ⟨_, _, _, rfl, h1, h2, h3⟩) HT6.out HS5.out.size (blk_lt HB5.out.blk) (fun g hg => Kd.R_lt HB5.out.row g hg) ho hg7 hat7 (by rw [List.length_append, List.length_singleton]))
      have hbx := (hg7.block X (blk_lt HB6.out.blk) (fun e => (HB6.out.row.1 X e.symm).2 rfl)).trans HB6.out.blk
      have x4 := (nd_cell hbx).2.2.2.2.1
      have xf := nd_frozen hbx 4
      rw [show (bs ++ [q]).length = bs.length + 1 from List.length_append]
      clear ho hb7 hg7 hat7 hbx
      refine hK.out _ _ x4 (fun hHeld => ?_)
      clear hK K
      refine norm_ (a' := ?_) ?_ ?_
      rotate_left
      · show Act.put _ (some 22) _ = _
        simp only [Act.put, List.setIfInBounds_toArray, List.set_cons_zero, List.set_cons_succ, i64_w, i32_w, xu32_w, xu8_w]
        rfl
      refine pure_ (i := 9) (N := some 23) (v := ?_) (a' := ?_) #[true, true, true, true, true, true, true, true, true, true, false, false] rfl rfl (any_of HT_.out (by kernel_rfl)) (fun _ _ _ h => h) (Or.inl ⟨by rfl, ?_⟩) ?_ ?_
      rotate_left
      · intro w'
        go_simp
        with_reducible rfl
      rotate_left
      · simp only [Act.put, List.setIfInBounds_toArray, List.set_cons_zero, List.set_cons_succ, i64_w, i32_w, xu32_w, xu8_w]
        rfl
      refine pure_ (i := 10) (N := some 24) (v := ?_) (a' := ?_) #[true, true, true, true, true, true, true, true, true, true, true, false] rfl rfl (any_of HT_.out (by kernel_rfl)) (fun _ _ _ h => h) (Or.inl ⟨by rfl, ?_⟩) ?_ ?_
      rotate_left
      · intro w'
        go_simp
        with_reducible rfl
      rotate_left
      · simp only [Act.put, List.setIfInBounds_toArray, List.set_cons_zero, List.set_cons_succ, i64_w, i32_w, xu32_w, xu8_w]
        rfl
      refine last_ (i := 11) (N := none) #[true, true, true, true, true, true, true, true, true, true, true, true] rfl rfl (one_of HT_.out (by kernel_rfl)) (by decide) (fun K hK => ?_)
      refine skip_ (w1 := w7.setCell ⟨X, 4, none⟩ (.slice A7 (bs.length + 1) c7)) (by rfl) rfl (by first | (go_simp; done) | (go_simp; rfl)) ?_
      refine hK.out _ _ ?_
      clear hK K
      refine done_ (done_of HT_.out (by kernel_rfl)) ?_
      go_wp2_with (fail)
      go_roundg k1
      case measure => omega
      case rel => exact ⟨j1, _, n + m1, _, A7, bs.length + 1, c7, ⟨HN.out, by have := HF.out.2; omega⟩, ⟨Rd.far H7.out HXb.out HX2.out 4 _⟩, ⟨HS7.out.far HB.out.le 4 _⟩, ⟨HB7.out⟩, ⟨by have h1 := HZ.out; have h2 := HLG.out; omega, by have h1 := HZ.out; have h2 := HLG.out; have h3 := HB.out.len; omega⟩⟩
/-- All of the parser's functions, with any fuel. -/
theorem parser_ok (s : ByteArray) : ∀ k k', k' ≤ k → AtOk s k' ∧ BrOk s k' ∧ PaOk s k'
  | 0, k', hk => by
    obtain rfl : k' = 0 := by omega
    exact ⟨⟨fun _ _ _ h => by simp [atF] at h⟩, ⟨fun _ _ h => by simp [brF] at h⟩, ⟨fun _ _ h => by simp [paF] at h⟩⟩
  | k + 1, k', hk => by
    have ih := parser_ok s k
    rcases Nat.lt_or_eq_of_le hk with hk | rfl
    · exact ih k' (by omega)
    · exact ⟨⟨fun h hz hc hf => atom_calls (ih k (Nat.le_refl _)).2.2 h hz hc hf⟩, ⟨fun h hz hf => branch_calls (fun k' hk => (ih k' (by omega)).1) h hz hf⟩, ⟨fun h hz hf => pattern_calls (fun k' hk => (ih k' (by omega)).2.1) h hz hf⟩⟩
end Go.Proofs.YtmfpikhmeacnbaaDoor.X
