/- Patterns by hand: how long what is parsed is; group, atom (mkX6.py). -/
import Derived.Test.YtmfpikhmeacnbaaDoorX5
namespace Go.Proofs.YtmfpikhmeacnbaaDoor.X
open Go.RowKit Go.Proofs.YtmfpikhmeacnbaaDoor.Q Go.Proofs.YtmfpikhmeacnbaaDoorW.PrintWords Go.Proofs.YtmfpikhmeacnbaaDoorW.PrintLast Go.Proofs.YtmfpikhmeacnbaaDoorW.PrintMore
set_option linter.unusedVariables false
set_option linter.unusedSimpArgs false
theorem cls_long {s : ByteArray} {RL : Res (List S86)} : ∀ {k i : Nat} {acc : List S86} {first : Bool} {l : List S86} {j : Nat}, clsL k s i acc first = some (.ok l j) → i ≤ j
  | 0, _, _, _, _, _, h => by simp [clsL] at h
  | k + 1, i, acc, first, l, j, h => by
    rcases clsL_head h with ⟨_, hB⟩ | ⟨_, c, _, _, hB⟩ | ⟨_, _, h⟩ | ⟨_, _, h⟩
    rotate_left 2
    · cases h
    · injection h with h1 h2; omega
    all_goals
      rcases hB with ⟨a1, e1, hm, h⟩ | ⟨l, j, hm, hN⟩ | ⟨l, j, hm, hp2, h⟩ | ⟨l, j, c2, hm, hp2, h45, hN⟩ | ⟨l, j, a1, e1, hm, hp2, hu, h⟩ | ⟨l, j, hi, j2, hm, hp2, hu, hN⟩
      · cases h
      · have h1 := cls_long (RL := RL) hN; have h2 := (mem_len hm).2; omega
      · cases h
      · have h1 := cls_long (RL := RL) hN; have h2 := (mem_len hm).2; omega
      · cases h
      · have h1 := cls_long (RL := RL) hN; have h2 := (mem_len hm).2; have h3 := up_len hu; omega
theorem clsF_long {s : ByteArray} {k i m j : Nat} {p : Pt} (h : clsF k s i = some (.ok (p, m) j)) : i + m ≤ j ∧ i + 1 ≤ j := by
  unfold clsF at h
  cases hp : peekF s i with
  | none => rw [hp] at h; cases h
  | some c =>
    rw [hp] at h
    dsimp only at h
    cases hL : clsL k s (if c = 94 then i + 1 else i) [] true with
    | none => rw [hL] at h; cases h
    | some RL =>
      rw [hL] at h
      cases RL with
      | bad a e => cases h
      | ok l j1 =>
        have h1 := cls_long (RL := .bad 0 0) hL
        have h2 : (if c = 94 then i + 1 else i) ≥ i := by split <;> omega
        have h3 := Option.some.inj h
        injection h3 with h4 h5
        injection h4 with h4 h6
        omega
def grF (k : Nat) (s : ByteArray) (d i : Nat) : Option (Res (Pt × Nat)) :=
  if 20 ≤ d then some (.bad i 60) else
  match paF k s (d + 1) (i + 1) with
  | none => none
  | some (.bad a e) => some (.bad a e)
  | some (.ok (p, m) j) => match peekF s j with
    | none => some (.bad j 8)
    | some c => if c = 41 then some (.ok (p, m) (j + 1)) else some (.bad j 8)
/-- The ways of an atom. -/
def AtB (k : Nat) (s : ByteArray) (d i : Nat) (R : Res (Pt × Nat)) : Prop :=
  (peekF s i = none ∧ R = .bad i 8) ∨
  (peekF s i = some 40 ∧ grF k s d i = some R) ∨
  (peekF s i = some 91 ∧ clsF k s (i + 1) = some R) ∨
  (peekF s i = some 46 ∧ R = .ok (.one [] true false, 1) (i + 1)) ∨
  (peekF s i = some 92 ∧ ∃ a e, escF s (i + 1) = .bad a e ∧ R = .bad a e) ∨
  (peekF s i = some 92 ∧ ∃ l sg j, escF s (i + 1) = .ok (l, sg) j ∧ R = .ok (.one l false sg, 1) j) ∨
  (∃ c, peekF s i = some c ∧ (c == 40) = false ∧ (c == 91) = false ∧ (c == 46) = false ∧ (c == 92) = false ∧ (special c = true ∨ c < 0) ∧ R = .bad i 8) ∨
  (∃ c, peekF s i = some c ∧ (c == 40) = false ∧ (c == 91) = false ∧ (c == 46) = false ∧ (c == 92) = false ∧ special c = false ∧ ¬ c < 0 ∧ R = .ok (.one [⟨c, c⟩] false true, 1) (i + rl c))
theorem atF_head {k : Nat} {s : ByteArray} {d i : Nat} {R : Res (Pt × Nat)} (h : atF (k + 1) s d i = some R) : AtB k s d i R := by
  rw [atF] at h
  unfold AtB
  cases hp : peekF s i with
  | none => rw [hp] at h; exact .inl ⟨rfl, (Option.some.inj h).symm⟩
  | some c =>
    rw [hp] at h
    dsimp only at h
    by_cases e1 : c = 40
    · rw [if_pos e1] at h
      exact .inr (.inl ⟨by rw [e1], h⟩)
    rw [if_neg e1] at h
    by_cases e2 : c = 91
    · rw [if_pos e2] at h
      exact .inr (.inr (.inl ⟨by rw [e2], h⟩))
    rw [if_neg e2] at h
    by_cases e3 : c = 46
    · rw [if_pos e3] at h
      exact .inr (.inr (.inr (.inl ⟨by rw [e3], (Option.some.inj h).symm⟩)))
    rw [if_neg e3] at h
    by_cases e4 : c = 92
    · rw [if_pos e4] at h
      cases he : escF s (i + 1) with
      | bad a e => rw [he] at h; exact .inr (.inr (.inr (.inr (.inl ⟨by rw [e4], a, e, rfl, (Option.some.inj h).symm⟩))))
      | ok lm j =>
        obtain ⟨l, sg⟩ := lm
        rw [he] at h
        exact .inr (.inr (.inr (.inr (.inr (.inl ⟨by rw [e4], l, sg, j, rfl, (Option.some.inj h).symm⟩)))))
    rw [if_neg e4] at h
    have f1 := beq_eq_false_iff_ne.2 e1
    have f2 := beq_eq_false_iff_ne.2 e2
    have f3 := beq_eq_false_iff_ne.2 e3
    have f4 := beq_eq_false_iff_ne.2 e4
    by_cases e5 : special c = true ∨ c < 0
    · rw [if_pos e5] at h
      exact .inr (.inr (.inr (.inr (.inr (.inr (.inl ⟨c, rfl, f1, f2, f3, f4, e5, (Option.some.inj h).symm⟩))))))
    · rw [if_neg e5] at h
      exact .inr (.inr (.inr (.inr (.inr (.inr (.inr ⟨c, rfl, f1, f2, f3, f4, by cases hs : special c; rfl; exact absurd (.inl hs) e5, fun h => e5 (.inr h), (Option.some.inj h).symm⟩))))))
/-- The ways of a round of branch, where c stands next. -/
def BrB (k : Nat) (s : ByteArray) (d i : Nat) (acc : Pt) (n : Nat) (c : Int) (R : Res (Pt × Nat)) : Prop :=
  ((c < 0 ∨ c = 124 ∨ c = 41) ∧ R = .ok (acc, n) i) ∨
  ((¬ c < 0 ∧ c ≠ 124 ∧ c ≠ 41) ∧ (
    (∃ a e, atF k s d i = some (.bad a e) ∧ R = .bad a e) ∨
    (∃ p m j, atF k s d i = some (.ok (p, m) j) ∧ peekF s j = none ∧ R = .bad j 8) ∨
    (∃ p m j c2, atF k s d i = some (.ok (p, m) j) ∧ peekF s j = some c2 ∧ (c2 = 42 ∨ c2 = 43 ∨ c2 = 63) ∧ brF k s d (j + 1) (.cat acc (.again p c2)) (n + m) = some R) ∨
    (∃ p m j c2, atF k s d i = some (.ok (p, m) j) ∧ peekF s j = some c2 ∧ ((c2 == 42) = false ∧ (c2 == 43) = false ∧ (c2 == 63) = false) ∧ brF k s d j (.cat acc p) (n + m) = some R)))
theorem brF_head {k : Nat} {s : ByteArray} {d i n : Nat} {acc : Pt} {R : Res (Pt × Nat)} (h : brF (k + 1) s d i acc n = some R) : (peekF s i = none ∧ R = .bad i 8) ∨ (∃ c, peekF s i = some c ∧ BrB k s d i acc n c R) := by
  rw [brF] at h
  unfold BrB
  cases hp : peekF s i with
  | none => rw [hp] at h; exact .inl ⟨rfl, (Option.some.inj h).symm⟩
  | some c =>
    rw [hp] at h
    dsimp only at h
    refine .inr ⟨c, rfl, ?_⟩
    by_cases e1 : c < 0 ∨ c = 124 ∨ c = 41
    · rw [if_pos e1] at h
      exact .inl ⟨e1, (Option.some.inj h).symm⟩
    rw [if_neg e1] at h
    refine .inr ⟨⟨fun h => e1 (.inl h), fun h => e1 (.inr (.inl h)), fun h => e1 (.inr (.inr h))⟩, ?_⟩
    cases ha : atF k s d i with
    | none => rw [ha] at h; cases h
    | some RA =>
      rw [ha] at h
      cases RA with
      | bad a e => exact .inl ⟨a, e, rfl, (Option.some.inj h).symm⟩
      | ok pm j =>
        obtain ⟨p, m⟩ := pm
        dsimp only at h
        cases hp2 : peekF s j with
        | none => rw [hp2] at h; exact .inr (.inl ⟨p, m, j, rfl, hp2, (Option.some.inj h).symm⟩)
        | some c2 =>
          rw [hp2] at h
          dsimp only at h
          by_cases e2 : c2 = 42 ∨ c2 = 43 ∨ c2 = 63
          · rw [if_pos e2] at h
            exact .inr (.inr (.inl ⟨p, m, j, c2, rfl, hp2, e2, h⟩))
          · rw [if_neg e2] at h
            exact .inr (.inr (.inr ⟨p, m, j, c2, rfl, hp2, ⟨beq_eq_false_iff_ne.2 fun e => e2 (.inl e), beq_eq_false_iff_ne.2 fun e => e2 (.inr (.inl e)), beq_eq_false_iff_ne.2 fun e => e2 (.inr (.inr e))⟩, h⟩))
/-- The ways of a round of pattern. -/
def AlB (k : Nat) (s : ByteArray) (d i : Nat) (acc : Pt) (n : Nat) (R : Res (Pt × Nat)) : Prop :=
  (peekF s i = none ∧ R = .bad i 8) ∨
  (∃ c, peekF s i = some c ∧ (c == 124) = false ∧ R = .ok (acc, n) i) ∨
  (peekF s i = some 124 ∧ ∃ a e, brF k s d (i + 1) .eps 0 = some (.bad a e) ∧ R = .bad a e) ∨
  (peekF s i = some 124 ∧ ∃ p m j, brF k s d (i + 1) .eps 0 = some (.ok (p, m) j) ∧ altF k s d j (.alt acc p) (n + m) = some R)
theorem altF_head {k : Nat} {s : ByteArray} {d i n : Nat} {acc : Pt} {R : Res (Pt × Nat)} (h : altF (k + 1) s d i acc n = some R) : AlB k s d i acc n R := by
  rw [altF] at h
  unfold AlB
  cases hp : peekF s i with
  | none => rw [hp] at h; exact .inl ⟨rfl, (Option.some.inj h).symm⟩
  | some c =>
    rw [hp] at h
    dsimp only at h
    by_cases e1 : c = 124
    · rw [if_pos e1] at h
      cases hb : brF k s d (i + 1) .eps 0 with
      | none => rw [hb] at h; cases h
      | some RB =>
        rw [hb] at h
        cases RB with
        | bad a e => exact .inr (.inr (.inl ⟨by rw [e1], a, e, rfl, (Option.some.inj h).symm⟩))
        | ok pm j => exact .inr (.inr (.inr ⟨by rw [e1], pm.1, pm.2, j, rfl, h⟩))
    · rw [if_neg e1] at h
      exact .inr (.inl ⟨c, rfl, beq_eq_false_iff_ne.2 e1, (Option.some.inj h).symm⟩)
theorem paF_head {k : Nat} {s : ByteArray} {d i : Nat} {R : Res (Pt × Nat)} (h : paF (k + 1) s d i = some R) : (∃ a e, brF k s d i .eps 0 = some (.bad a e) ∧ R = .bad a e) ∨ (∃ p m j, brF k s d i .eps 0 = some (.ok (p, m) j) ∧ altF k s d j (.alt1 p) m = some R) := by
  rw [paF] at h
  cases hb : brF k s d i .eps 0 with
  | none => rw [hb] at h; cases h
  | some RB =>
    rw [hb] at h
    cases RB with
    | bad a e => exact .inl ⟨a, e, rfl, (Option.some.inj h).symm⟩
    | ok pm j => exact .inr ⟨pm.1, pm.2, j, rfl, h⟩
theorem grF_head {k : Nat} {s : ByteArray} {d i : Nat} {R : Res (Pt × Nat)} (h : grF k s d i = some R) : (20 ≤ d ∧ R = .bad i 60) ∨ (¬ 20 ≤ d ∧ ((∃ a e, paF k s (d + 1) (i + 1) = some (.bad a e) ∧ R = .bad a e) ∨ (∃ p m j, paF k s (d + 1) (i + 1) = some (.ok (p, m) j) ∧ ((peekF s j = none ∧ R = .bad j 8) ∨ (∃ c, peekF s j = some c ∧ (c != 41) = true ∧ R = .bad j 8) ∨ (peekF s j = some 41 ∧ R = .ok (p, m) (j + 1)))))) := by
  unfold grF at h
  by_cases e : 20 ≤ d
  · rw [if_pos e] at h; exact .inl ⟨e, (Option.some.inj h).symm⟩
  rw [if_neg e] at h
  refine .inr ⟨e, ?_⟩
  cases hb : paF k s (d + 1) (i + 1) with
  | none => rw [hb] at h; cases h
  | some RB =>
    rw [hb] at h
    cases RB with
    | bad a e => exact .inl ⟨a, e, rfl, (Option.some.inj h).symm⟩
    | ok pm j =>
      obtain ⟨p, m⟩ := pm
      dsimp only at h
      refine .inr ⟨p, m, j, rfl, ?_⟩
      cases hp : peekF s j with
      | none => rw [hp] at h; exact .inl ⟨rfl, (Option.some.inj h).symm⟩
      | some c =>
        rw [hp] at h
        dsimp only at h
        by_cases e1 : c = 41
        · rw [if_pos e1] at h; exact .inr (.inr ⟨by rw [e1], (Option.some.inj h).symm⟩)
        · rw [if_neg e1] at h; exact .inr (.inl ⟨c, rfl, bne_iff_ne.2 e1, (Option.some.inj h).symm⟩)
/-- What is parsed takes as many bytes as it has atoms, at the least. -/
theorem long {s : ByteArray} : ∀ k, (∀ {d i p m j}, atF k s d i = some (.ok (p, m) j) → i + m ≤ j ∧ i + 1 ≤ j) ∧ (∀ {d i acc n p m j}, brF k s d i acc n = some (.ok (p, m) j) → i + m ≤ n + j ∧ i ≤ j) ∧ (∀ {d i p m j}, paF k s d i = some (.ok (p, m) j) → i + m ≤ j ∧ i ≤ j) ∧ (∀ {d i acc n p m j}, altF k s d i acc n = some (.ok (p, m) j) → i + m ≤ n + j ∧ i ≤ j)
  | 0 => ⟨fun h => by simp [atF] at h, fun h => by simp [brF] at h, fun h => by simp [paF] at h, fun h => by simp [altF] at h⟩
  | k + 1 => by
    obtain ⟨ha, hb, hp, hl⟩ := long (s := s) k
    refine ⟨fun h => ?_, fun h => ?_, fun h => ?_, fun h => ?_⟩
    · rcases atF_head h with ⟨_, h⟩ | ⟨_, h⟩ | ⟨_, h⟩ | ⟨_, h⟩ | ⟨_, a, e, _, h⟩ | ⟨_, l, sg, j, he, h⟩ | ⟨c, _, _, _, _, _, _, h⟩ | ⟨c, _, _, _, _, _, _, _, h⟩
      · cases h
      · rcases grF_head h with ⟨_, h⟩ | ⟨_, ⟨a, e, _, h⟩ | ⟨p, m, j, hq, ⟨_, h⟩ | ⟨c, _, _, h⟩ | ⟨_, h⟩⟩⟩
        · cases h
        · cases h
        · cases h
        · cases h
        · have := hp hq
          injection h with h1 h2
          injection h1 with h1 h3
          omega
      · have := clsF_long h; omega
      · injection h with h1 h2
        injection h1 with h1 h3
        omega
      · cases h
      · have := (esc_len he).2
        injection h with h1 h2
        injection h1 with h1 h3
        omega
      · cases h
      · have := rl_pos c
        injection h with h1 h2
        injection h1 with h1 h3
        omega
    · rcases brF_head h with ⟨_, h⟩ | ⟨c, _, ⟨_, h⟩ | ⟨_, ⟨a, e, _, h⟩ | ⟨p, m, j, _, _, h⟩ | ⟨p, m, j, c2, hq, _, _, h⟩ | ⟨p, m, j, c2, hq, _, _, h⟩⟩⟩
      · cases h
      · injection h with h1 h2
        injection h1 with h1 h3
        omega
      · cases h
      · cases h
      · have h1 := ha hq; have h2 := hb h; omega
      · have h1 := ha hq; have h2 := hb h; omega
    · rcases paF_head h with ⟨a, e, _, h⟩ | ⟨p, m, j, hq, h⟩
      · cases h
      · have h1 := hb hq; have h2 := hl h; omega
    · rcases altF_head h with ⟨_, h⟩ | ⟨c, _, _, h⟩ | ⟨_, a, e, _, h⟩ | ⟨_, p, m, j, hq, h⟩
      · cases h
      · injection h with h1 h2
        injection h1 with h1 h3
        omega
      · cases h
      · have h1 := hb hq; have h2 := hl h; omega
theorem Rd.setd {w : World} {b : Nat} {s : ByteArray} {at_ d sz d2 : Nat} (h : Rd w b s at_ d sz) {v : Int} (hv : v = (d2 : Int)) : Rd (w.setCell ⟨b, 2, none⟩ (.int .i64 v)) b s at_ d2 sz := by rw [hv]; exact h.set2
/-- A tree that was built stays, whatever the reader does. -/
theorem Tr.stp {w1 w2 : World} {n b q : Nat} {p : Pt} (h : Tr w1 n (fun k => n ≤ k) q p) (hs : Stp b w1 w2) (hb : b < n) : Tr w2 n (fun k => n ≤ k) q p :=
  h.turn (Nat.le_refl _) (fun k hk hl ho => ⟨ho, hs.block k hl (by omega)⟩)
theorem Tr.down {w1 : World} {n n' q : Nat} {p : Pt} (h : Tr w1 n (fun k => n ≤ k) q p) (hn : n' ≤ n) : Tr w1 n' (fun k => n' ≤ k) q p :=
  h.turn hn (fun k hk hl ho => ⟨by omega, rfl⟩)
section
variable (s : ByteArray)
structure AtOk (k : Nat) : Prop where
  go : ∀ {w : World} {b i d sz : Nat} {R : Res (Pt × Nat)}, Rd w b s i d sz → sz ≤ i → (∀ c, peekF s i = some c → 0 ≤ c) → atF k s d i = some R → Calls Tryd.prog 46 #[.pointer (some ⟨b, 0, none⟩)] w (PostP b s d sz w R)
structure BrOk (k : Nat) : Prop where
  go : ∀ {w : World} {b i d sz : Nat} {R : Res (Pt × Nat)}, Rd w b s i d sz → sz ≤ i → brF k s d i .eps 0 = some R → Calls Tryd.prog 35 #[.pointer (some ⟨b, 0, none⟩)] w (PostP b s d sz w R)
structure PaOk (k : Nat) : Prop where
  go : ∀ {w : World} {b i d sz : Nat} {R : Res (Pt × Nat)}, Rd w b s i d sz → sz ≤ i → paF k s d i = some R → Calls Tryd.prog 22 #[.pointer (some ⟨b, 0, none⟩)] w (PostP b s d sz w R)
end
set_option maxHeartbeats 1000000 in
set_option maxRecDepth 100000 in
theorem group_calls {s : ByteArray} {k : Nat} (PA : PaOk s k) {w : World} {b i d sz : Nat} (h : Rd w b s i d sz) (hz : sz ≤ i) (hp : peekF s i = some 40) {R : Res (Pt × Nat)} (hf : grF k s d i = some R) : Calls Tryd.prog 51 #[.pointer (some ⟨b, 0, none⟩)] w (PostP b s d sz w R) := by
  have PA := Aside0.mk PA
  have HSZ1 := Aside0.mk (show sz ≤ i + 1 by omega)
  have HH := Aside0.mk h
  have HSZ := Aside0.mk hz
  have HC := Aside0.mk (show i + rl 40 ≤ s.size from ((peek_rune h.le hp).resolve_left (by decide)).2)
  obtain ⟨c0, c1, c2, c3⟩ := h.cell
  have HW := Aside0.mk (show ¬ 20 ≤ d → wrap64 ((d : Int) + 1) = ((d + 1 : Nat) : Int) from fun h => by unfold wrap64; omega)
  have HW2 := Aside0.mk (show ¬ 20 ≤ d → wrap64 (((d + 1 : Nat) : Int) - 1) = ((d : Nat) : Int) from fun h => by unfold wrap64; omega)
  have hd := grF_head hf
  clear h hz hp hf
  rcases hd with ⟨h20, rfl⟩ | ⟨h20, hd⟩
  · have h20' : (d : Int) ≥ 20 := by omega
    clear h20
    go_enter Tryd.func51, Tryd.ntmps51
    go_wp2_with (go_at_call 23; (with_reducible refine (bad_calls HH.out 60).mono ?_); rintro e w' ⟨rfl, rfl⟩)
    exact ⟨rfl, rfl, Stp.refl _ _⟩
  · have h20' : ¬ (d : Int) ≥ 20 := by omega
    have hw : (d : Int) + 1 = ((d + 1 : Nat) : Int) := by omega
    have hw2 : (d : Int) = ((d : Nat) : Int) := rfl
    have HHW := Aside0.mk hw
    have HHW2 := Aside0.mk hw2
    clear HW HW2 h20 hw hw2
    rcases hd with ⟨a, e, hq, rfl⟩ | ⟨p, m, j, hq, hd⟩
    · have HQ := Aside0.mk hq
      clear hq
      go_enter Tryd.func51, Tryd.ntmps51
      go_wp2_with (first
        | (go_at_call 37; (with_reducible refine (skip_calls HH.out rune40 HC.out).mono ?_); rintro e w1 ⟨rfl, h1, hs⟩; have H1 := Aside0.mk (show Rd w1 b s (i + 1) d sz from h1); have HS1 := Aside0.mk hs; clear hs c0 c1 c2 c3; obtain ⟨c0, c1, c2, c3⟩ := h1.cell; have f2 := h1.frozen 2; clear h1)
        | (go_at_call 22; (with_reducible refine (PA.out.go (Rd.setd H1.out HHW.out) HSZ1.out HQ.out).mono ?_); rintro e w3 ⟨rfl, hs⟩; have HS3 := Aside0.mk (HS1.out.trans ((Stp.set 2 _).trans hs)); clear hs))
      exact ⟨rfl, rfl, HS3.out⟩
    · have HQ := Aside0.mk hq
      have HLG := Aside0.mk ((long k).2.2.1 hq)
      clear hq
      rcases hd with ⟨hp, rfl⟩ | ⟨c, hp, hc, rfl⟩ | ⟨hp, rfl⟩
      · have HP := Aside0.mk hp
        clear hp
        go_enter Tryd.func51, Tryd.ntmps51
        go_wp2_with (first
          | (go_at_call 37; (with_reducible refine (skip_calls HH.out rune40 HC.out).mono ?_); rintro e w1 ⟨rfl, h1, hs⟩; have H1 := Aside0.mk (show Rd w1 b s (i + 1) d sz from h1); have HS1 := Aside0.mk hs; clear hs c0 c1 c2 c3; obtain ⟨c0, c1, c2, c3⟩ := h1.cell; have f2 := h1.frozen 2; clear h1)
          | (go_at_call 22; (with_reducible refine (PA.out.go (Rd.setd H1.out HHW.out) HSZ1.out HQ.out).mono ?_); rintro e w3 ⟨q, rfl, h3, hs, ht⟩; have H3 := Aside0.mk h3; have HS3 := Aside0.mk (HS1.out.trans ((Stp.set 2 _).trans hs)); clear h3 hs ht c0 c1 c2 c3 f2)
          | (go_at_call 36; (with_reducible refine (peek_no H3.out HP.out).mono ?_); rintro e w4 ⟨rfl, hb⟩; have HS4 := Aside0.mk (HS3.out.trans (Stp.of hb)); clear hb))
        exact ⟨rfl, rfl, HS4.out⟩
      · have HP := Aside0.mk hp
        clear hp
        go_enter Tryd.func51, Tryd.ntmps51
        go_wp2_with (first
          | (go_at_call 37; (with_reducible refine (skip_calls HH.out rune40 HC.out).mono ?_); rintro e w1 ⟨rfl, h1, hs⟩; have H1 := Aside0.mk (show Rd w1 b s (i + 1) d sz from h1); have HS1 := Aside0.mk hs; clear hs c0 c1 c2 c3; obtain ⟨c0, c1, c2, c3⟩ := h1.cell; have f2 := h1.frozen 2; clear h1)
          | (go_at_call 22; (with_reducible refine (PA.out.go (Rd.setd H1.out HHW.out) HSZ1.out HQ.out).mono ?_); rintro e w3 ⟨q, rfl, h3, hs, ht⟩; have H3 := Aside0.mk h3; have HS3 := Aside0.mk (HS1.out.trans ((Stp.set 2 _).trans hs)); clear h3 hs ht c0 c1 c2 c3 f2)
          | (go_at_call 36; (with_reducible refine (peek_ok H3.out HP.out).mono ?_); rintro e w4 ⟨rfl, hb⟩; have H4 := Aside0.mk (H3.out.below hb); have HS4 := Aside0.mk (HS3.out.trans (Stp.of hb)); clear hb)
          | (go_at_call 23; (with_reducible refine (bad_calls H4.out 8).mono ?_); rintro e w' ⟨rfl, rfl⟩))
        exact ⟨rfl, rfl, HS4.out⟩
      · have HP := Aside0.mk hp
        clear hp
        go_enter Tryd.func51, Tryd.ntmps51
        go_wp2_with (first
          | (go_at_call 37; (with_reducible refine (skip_calls HH.out rune40 HC.out).mono ?_); rintro e w1 ⟨rfl, h1, hs⟩; have H1 := Aside0.mk (show Rd w1 b s (i + 1) d sz from h1); have HS1 := Aside0.mk hs; clear hs c0 c1 c2 c3; obtain ⟨c0, c1, c2, c3⟩ := h1.cell; have f2 := h1.frozen 2; clear h1)
          | (go_at_call 22; (with_reducible refine (PA.out.go (Rd.setd H1.out HHW.out) HSZ1.out HQ.out).mono ?_); rintro e w3 ⟨q, rfl, h3, hs, ht⟩; have H3 := Aside0.mk h3; have HS3 := Aside0.mk (HS1.out.trans ((Stp.set 2 _).trans hs)); have HT3 := Aside0.mk ht; have HZ3 := Aside0.mk (show w.heap.size ≤ (w1.setCell ⟨b, 2, none⟩ (.int .i64 ((d : Int) + 1))).heap.size from by have := HS1.out.size; simpa using this); clear h3 hs ht c0 c1 c2 c3 f2)
          | (go_at_call 36; (with_reducible refine (peek_ok H3.out HP.out).mono ?_); rintro e w4 ⟨rfl, hb⟩; have H4 := Aside0.mk (H3.out.below hb); have HS4 := Aside0.mk (HS3.out.trans (Stp.of hb)); have HT4 := Aside0.mk ((HT3.out.down HZ3.out).stp (Stp.of (b := b) hb) HH.out.lt); clear hb)
          | (go_at_call 37; (with_reducible refine (skip_calls H4.out rune41 (((peek_rune H4.out.le HP.out).resolve_left (by decide)).2)).mono ?_); rintro e w5 ⟨rfl, h5, hs⟩; have H5 := Aside0.mk (show Rd w5 b s (j + 1) (d + 1) (sz + m) from h5); have HS5 := Aside0.mk (HS4.out.trans hs); have HT5 := Aside0.mk (HT4.out.stp hs HH.out.lt); clear hs; obtain ⟨c0, c1, c2, c3⟩ := h5.cell; have f2 := h5.frozen 2; clear h5))
        go_ret
        exact ⟨q, rfl, Rd.setd H5.out (by omega), HS5.out.trans (Stp.set 2 _), HT5.out.stp (Stp.set 2 _) HH.out.lt⟩
end Go.Proofs.YtmfpikhmeacnbaaDoor.X
