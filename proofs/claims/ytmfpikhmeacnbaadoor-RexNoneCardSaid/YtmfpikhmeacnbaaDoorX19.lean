/- Patterns by hand: the chapter's examples; RexNone (mkX19.py). -/
import Derived.Test.YtmfpikhmeacnbaaDoorX18
import Derived.KernelRfl
namespace Go.Proofs.YtmfpikhmeacnbaaDoor.X
open Go.RowKit Go.Proofs.YtmfpikhmeacnbaaDoor.Q Go.Proofs.YtmfpikhmeacnbaaDoorW.PrintWords Go.Proofs.YtmfpikhmeacnbaaDoorW.PrintLast Go.Proofs.YtmfpikhmeacnbaaDoorW.PrintMore
set_option linter.unusedVariables false
set_option linter.unusedSimpArgs false
theorem up_le {s : ByteArray} {i j : Nat} {lo hi : Int} (h0 : i ≤ s.size) (h : upF s lo i = .ok hi j) : j ≤ s.size := by
  unfold upF at h
  cases hp : peekF s i with
  | none => rw [hp] at h; cases h
  | some c =>
    rw [hp] at h
    dsimp only at h
    split at h
    · cases h
    · cases hm : memF s i with
      | bad a e => rw [hm] at h; cases h
      | ok lm a =>
        obtain ⟨l, sg⟩ := lm
        rw [hm] at h
        dsimp only at h
        split at h
        · cases h
        · injection h with h1 h2
          subst h2
          exact mem_le h0 hm
theorem cls_le {s : ByteArray} {RL : Res (List S86)} : ∀ {k i : Nat} {acc : List S86} {first : Bool} {l : List S86} {j : Nat}, i ≤ s.size → clsL k s i acc first = some (.ok l j) → j ≤ s.size ∧ peekF s j = some 93
  | 0, _, _, _, _, _, _, h => by simp [clsL] at h
  | k + 1, i, acc, first, l, j, hi, h => by
    have hup : ∀ {j hi j2 : Nat} {lo c : Int}, True := trivial
    rcases clsL_head h with ⟨_, hB⟩ | ⟨_, c, _, _, hB⟩ | ⟨_, _, h⟩ | ⟨_, hp, h⟩
    rotate_left 2
    · cases h
    · injection h with h1 h2; subst h2; exact ⟨hi, hp⟩
    all_goals
      rcases hB with ⟨a1, e1, hm, h⟩ | ⟨l, j, hm, hN⟩ | ⟨l, j, hm, hp2, h⟩ | ⟨l, j, c2, hm, hp2, h45, hN⟩ | ⟨l, j, a1, e1, hm, hp2, hu, h⟩ | ⟨l, j, hi2, j2, hm, hp2, hu, hN⟩
      · cases h
      · exact cls_le (RL := RL) (mem_le hi hm) hN
      · cases h
      · exact cls_le (RL := RL) (mem_le hi hm) hN
      · cases h
      · exact cls_le (RL := RL) (up_le (by have h1 := mem_le hi hm; have h2 := ((peek_rune h1 hp2).resolve_left (by decide)).2; have h3 := rl_pos 45; omega) hu) hN
theorem clsF_le {s : ByteArray} {k i m j : Nat} {p : Pt} (hi : i ≤ s.size) (h : clsF k s i = some (.ok (p, m) j)) : j ≤ s.size := by
  unfold clsF at h
  cases hp : peekF s i with
  | none => rw [hp] at h; cases h
  | some c =>
    rw [hp] at h
    dsimp only at h
    cases hL : clsL k s (if c = 94 then i + 1 else i) [] true with
    | none => rw [hL] at h; cases h
    | some RL =>
      rw [hL] at h
      cases RL with
      | bad a e => cases h
      | ok l j1 =>
        have h3 := Option.some.inj h
        injection h3 with h4 h5
        have hi1 : (if c = 94 then i + 1 else i) ≤ s.size := by
          split
          · rename_i e
            have h2 := ((peek_rune hi hp).resolve_left (by omega)).2
            have h3 := rl_pos c
            omega
          · exact hi
        obtain ⟨g1, g2⟩ := cls_le (RL := .bad 0 0) hi1 hL
        have h2 := ((peek_rune g1 g2).resolve_left (by decide)).2
        have h3 := rl_pos 93
        omega
theorem le_ok {s : ByteArray} : ∀ k, (∀ {d i p m j}, i ≤ s.size → atF k s d i = some (.ok (p, m) j) → j ≤ s.size) ∧ (∀ {d i acc n p m j}, i ≤ s.size → brF k s d i acc n = some (.ok (p, m) j) → j ≤ s.size) ∧ (∀ {d i p m j}, i ≤ s.size → paF k s d i = some (.ok (p, m) j) → j ≤ s.size) ∧ (∀ {d i acc n p m j}, i ≤ s.size → altF k s d i acc n = some (.ok (p, m) j) → j ≤ s.size)
  | 0 => ⟨fun _ h => by simp [atF] at h, fun _ h => by simp [brF] at h, fun _ h => by simp [paF] at h, fun _ h => by simp [altF] at h⟩
  | k + 1 => by
    obtain ⟨ha, hb, hp, hl⟩ := le_ok (s := s) k
    have hone : ∀ {i : Nat} {c : Int}, i ≤ s.size → peekF s i = some c → 0 ≤ c → i + 1 ≤ s.size := fun hi h h0 => by
      have h2 := ((peek_rune hi h).resolve_left (by omega)).2
      have h3 := rl_pos
      have h4 := h3 (by assumption)
      omega
    refine ⟨fun hi h => ?_, fun hi h => ?_, fun hi h => ?_, fun hi h => ?_⟩
    · rcases atF_head h with ⟨_, h⟩ | ⟨hp1, h⟩ | ⟨hp1, h⟩ | ⟨hp1, h⟩ | ⟨_, a, e, _, h⟩ | ⟨hp1, l, sg, j, he, h⟩ | ⟨c, _, _, _, _, _, _, h⟩ | ⟨c, hp1, _, _, _, _, _, h0, h⟩
      · cases h
      · have h40 := hone hi hp1 (by decide)
        rcases grF_head h with ⟨_, h⟩ | ⟨_, ⟨a, e, _, h⟩ | ⟨p, m, j, hq, ⟨_, h⟩ | ⟨c, _, _, h⟩ | ⟨hp2, h⟩⟩⟩
        · cases h
        · cases h
        · cases h
        · cases h
        · have := hone (hp h40 hq) hp2 (by decide)
          injection h with h1 h2
          omega
      · have h91 := hone hi hp1 (by decide)
        exact clsF_le h91 h
      · have := hone hi hp1 (by decide)
        injection h with h1 h2
        omega
      · cases h
      · have h92 := hone hi hp1 (by decide)
        injection h with h1 h2
        rw [h2]
        exact esc_le h92 he
      · cases h
      · injection h with h1 h2
        rw [h2]
        exact ((peek_rune hi hp1).resolve_left (by omega)).2
    · rcases brF_head h with ⟨_, h⟩ | ⟨c, hp0, ⟨_, h⟩ | ⟨_, ⟨a, e, _, h⟩ | ⟨p, m, j, _, _, h⟩ | ⟨p, m, j, c2, hq, hp2, hsg, h⟩ | ⟨p, m, j, c2, hq, _, _, h⟩⟩⟩
      · cases h
      · injection h with h1 h2; omega
      · cases h
      · cases h
      · exact hb (hone (ha hi hq) hp2 (by rcases hsg with rfl | rfl | rfl <;> decide)) h
      · exact hb (ha hi hq) h
    · rcases paF_head h with ⟨a, e, _, h⟩ | ⟨p, m, j, hq, h⟩
      · cases h
      · exact hl (hb hi hq) h
    · rcases altF_head h with ⟨_, h⟩ | ⟨c, _, _, h⟩ | ⟨_, a, e, _, h⟩ | ⟨hp0, p, m, j, hq, h⟩
      · cases h
      · injection h with h1 h2; omega
      · cases h
      · exact hl (hb (hone hi hp0 (by decide)) hq) h
theorem paF_le {s : ByteArray} (k : Nat) {d p m j} (h : paF k s d 0 = some (.ok (p, m) j)) : j ≤ s.size := (le_ok k).2.2.1 (Nat.zero_le _) h
theorem parF_ok {k : Nat} {s : ByteArray} {p : Pt} {m j : Nat} (h : parF k s = some (.ok (p, m) j)) : p.kind = 2 ∧ p.WF ∧ p.sz ≤ 1000 ∧ s.size ≤ 256 := by
  rcases parF_head h with ⟨_, h⟩ | ⟨hs, ⟨a, e, _, h⟩ | ⟨p1, m1, j1, hq, ⟨_, h⟩ | ⟨hj, h⟩⟩⟩
  · cases h
  · cases h
  · cases h
  · injection h with h1 h2
    injection h1 with h1 h3
    subst h1 h2 h3
    obtain ⟨w1, w2⟩ := (wf_ok k).2.2.1 hq
    refine ⟨w1, w2, ?_, hs⟩
    have h4 := ((sz_ok k).2.2.1 hq).2
    have h5 := paF_le k hq
    omega
theorem Rx.below {w w1 : World} {B Q : Nat} {s : ByteArray} {p : Pt} {m : Nat} (h : Rx w B Q s p m) (hb : Below w.heap.size w w1) : Rx w1 B Q s p m := by
  obtain ⟨h1, q, h2, h3⟩ := h
  exact ⟨h1, q, (hb.block Q (blk_lt h2)).trans h2, h3.below hb⟩
theorem size_rx {w : World} {B Q : Nat} {s : ByteArray} {p : Pt} {m : Nat} (h : Rx w B Q s p m) : Calls Tryd.prog 20 #[.pointer (some ⟨Q, 0, none⟩)] w fun x w' => x = .returned (.int .i64 m) ∧ w' = w := by
  obtain ⟨_, q, h2, _⟩ := h
  exact size_some h2
def pA : Pt := .alt1 (.cat (.cat .eps (.one [⟨97, 97⟩] false true)) (.again (.alt (.alt1 (.cat .eps (.one [⟨98, 98⟩] false true))) (.cat .eps (.one [⟨99, 99⟩] false true))) 43))
theorem tA : parF 40 ⟨#[97, 40, 98, 124, 99, 41, 43]⟩ = some (.ok (pA, 3) 7) := by kernel_rfl
theorem mA1 : matchF pA ⟨#[97, 98, 99, 98]⟩ = true := by kernel_rfl
theorem mA2 : matchF pA ⟨#[97]⟩ = false := by kernel_rfl
theorem qA : quoteF ⟨#[97, 46, 98]⟩ = ⟨#[97, 92, 46, 98]⟩ := by kernel_rfl
theorem tC : parF 40 ⟨#[97, 42, 42]⟩ = some (.bad 2 8) := by kernel_rfl
def bA (c : Int) : Pt := .cat .eps (.one [⟨c, c⟩] false true)
def pB : Pt := .alt (.alt (.alt1 (bA 97)) (bA 98)) (bA 97)
theorem tB : parF 40 ⟨#[97, 124, 98, 124, 97]⟩ = some (.ok (pB, 3) 5) := by kernel_rfl
theorem vB : valuesF pB = some [⟨#[97]⟩, ⟨#[98]⟩] := by kernel_rfl
set_option maxHeartbeats 2000000 in
set_option maxRecDepth 100000 in
theorem live_calls {w : World} (hT : Tab w) : Calls Tryd.prog 9 #[] w fun x w' => x = .returned (.bool true) ∧ Below w.heap.size w w' := by
  have HT := Aside0.mk hT
  clear hT
  go_enter Tryd.func9, Tryd.ntmps9
  go_wp2_with (first
    | (go_at_call 10; (with_reducible refine (parse_calls HT.out tA).mono ?_); rintro e w1 ⟨hb, Q1, rfl, hx⟩; have HX1 := Aside0.mk hx; have HT1 := Aside0.mk (HT.out.below hb); have HB1 := Aside0.mk hb; clear hb hx)
    | (go_at_call 10; (with_reducible refine (parse_calls HT1.out tB).mono ?_); rintro e w2 ⟨hb, Q2, rfl, hx⟩; have HX2 := Aside0.mk (HX1.out.below hb); have HY2 := Aside0.mk hx; have HT2 := Aside0.mk (HT1.out.below hb); have HB2 := Aside0.mk (HB1.out.trans (hb.mono HB1.out.size)); clear hb hx)
    | (go_at_call 10; (with_reducible refine (parse_calls HT2.out tC).mono ?_); rintro e w3 ⟨hb, rfl⟩; have HX3 := Aside0.mk (HX2.out.below hb); have HY3 := Aside0.mk (HY2.out.below hb); have HB3 := Aside0.mk (HB2.out.trans (hb.mono HB2.out.size)); clear hb)
    | (go_at_call 18; (with_reducible refine (values_calls HY3.out (parF_ok tB).2.1 (Nat.le_trans (parF_ok tB).2.2.1 (by decide))).mono ?_); rw [vB]; rintro e w4 ⟨v, rfl, hR, hb⟩; obtain ⟨g, cap, rfl, _⟩ := Kd.R_form hR (by decide); have HX4 := Aside0.mk (HX3.out.below hb); have HB4 := Aside0.mk (HB3.out.trans (hb.mono HB3.out.size)); have HR4 := Aside0.mk hR; clear hb hR)
    | (go_at_call 12; (with_reducible refine (match_calls HX4.out (parF_ok tA).2.1 (s := ⟨#[97, 98, 99, 98]⟩) (by decide)).mono ?_); rw [mA1]; rintro e w5 ⟨rfl, hb⟩; have HX5 := Aside0.mk (HX4.out.below hb); have HB5 := Aside0.mk (HB4.out.trans (hb.mono HB4.out.size)); have HR5 := Aside0.mk (Kd.R_below HR4.out hb); clear hb)
    | (go_at_call 12; (with_reducible refine (match_calls HX5.out (parF_ok tA).2.1 (s := ⟨#[97]⟩) (by decide)).mono ?_); rw [mA2]; rintro e w6 ⟨rfl, hb⟩; have HX6 := Aside0.mk (HX5.out.below hb); have HB6 := Aside0.mk (HB5.out.trans (hb.mono HB5.out.size)); have y1 := (Kd.R_celln (⟨#[]⟩ : ByteArray) (Kd.R_below HR5.out hb) 1 (by decide) (by decide)).1; have y1' : w6.cell? ⟨g, 1, none⟩ = some (.string ⟨#[98]⟩) := y1; clear hb y1)
    | (go_at_call 20; (with_reducible refine (size_rx HX6.out).mono ?_); rintro e w7 ⟨rfl, h7⟩; subst w7)
    | (go_at_call 14; (with_reducible refine (quote_calls (s := ⟨#[97, 46, 98]⟩) (by decide) _).mono ?_); rw [qA]; rintro e w8 ⟨rfl, hb⟩; have HB8 := Aside0.mk (HB6.out.trans (hb.mono HB6.out.size)); clear hb))
  go_ret
  exact ⟨rfl, HB8.out⟩
set_option maxHeartbeats 2000000 in
set_option maxRecDepth 100000 in
theorem none_law {w : World} (hT : Tab w) (s : ByteArray) : Calls Tryd.prog 8 #[.string s] w fun x w' => x = .returned (.bool true) ∧ Below w.heap.size w w' := by
  have HT := Aside0.mk hT
  clear hT
  go_enter Tryd.func8, Tryd.ntmps8
  go_wp2_with (first
    | ((with_reducible refine gate_dst (N := 4) rfl ?_); refine box_event ?hg (N := 4) ?hd (cs := #[.string ⟨#[]⟩, .pointer none, .int .i64 0]) (t := 43) ?hr ?_; (case hd => rfl); (case hg => rfl); (case hr => first | (go_simp; done) | (go_simp; rfl)); intro Z hZ w1 hx5 hb5; have HZ1 := Aside0.mk hx5; have HB1 := Aside0.mk hb5; have HT1 := Aside0.mk (HT.out.below hb5); clear hZ hx5 hb5)
    | (go_at_call 18; (with_reducible refine (values_none _).mono ?_); rintro e w9 ⟨rfl, h9⟩; subst w9)
    | (go_at_call 18; (with_reducible refine (values_zero HZ1.out).mono ?_); rintro e w9 ⟨rfl, h9⟩; subst w9)
    | (go_at_call 9; (with_reducible refine (live_calls HT1.out).mono ?_); rintro e w2 ⟨rfl, hb⟩; have HZ2 := Aside0.mk ((hb.block Z (blk_lt HZ1.out)).trans HZ1.out); have HB2 := Aside0.mk (HB1.out.trans (hb.mono HB1.out.size)); clear hb)
    | (go_at_call 12; (with_reducible refine (match_none _ _).mono ?_); rintro e w9 ⟨rfl, h9⟩; subst w9)
    | (go_at_call 12; (with_reducible refine (match_zero HZ2.out _).mono ?_); rintro e w9 ⟨rfl, h9⟩; subst w9)
    | (go_at_call 19; (with_reducible refine (text_none _).mono ?_); rintro e w9 ⟨rfl, h9⟩; subst w9)
    | (go_at_call 19; (with_reducible refine (text_some HZ2.out).mono ?_); rintro e w9 ⟨rfl, h9⟩; subst w9)
    | (go_at_call 20; (with_reducible refine (size_none _).mono ?_); rintro e w9 ⟨rfl, h9⟩; subst w9)
    | (go_at_call 20; (with_reducible refine (size_some HZ2.out).mono ?_); rintro e w9 ⟨rfl, h9⟩; subst w9))
  go_ret
  exact ⟨rfl, HB2.out⟩
end Go.Proofs.YtmfpikhmeacnbaaDoor.X
