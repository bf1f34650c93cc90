/- Patterns by hand: member, upper (mkX3.py). -/
import Derived.Test.YtmfpikhmeacnbaaDoorX2
namespace Go.Proofs.YtmfpikhmeacnbaaDoor.X
open Go.RowKit Go.Proofs.YtmfpikhmeacnbaaDoor.Q Go.Proofs.YtmfpikhmeacnbaaDoorW.PrintWords Go.Proofs.YtmfpikhmeacnbaaDoorW.PrintLast Go.Proofs.YtmfpikhmeacnbaaDoorW.PrintMore
set_option linter.unusedVariables false
set_option linter.unusedSimpArgs false
def noMem (c : Int) : Prop := c = -1 ∨ c = 91 ∨ c = 93 ∨ c = 94 ∨ c = 45
instance (c : Int) : Decidable (noMem c) := by unfold noMem; infer_instance
/-- What stands in a class. -/
def memF (s : ByteArray) (i : Nat) : Res (List S86 × Bool) := match peekF s i with
  | none => .bad i 8
  | some c => if noMem c then .bad i 8 else if c = 92 then escF s (i + 1) else .ok ([⟨c, c⟩], true) (i + rl c)
theorem rune92 : Rune 92 := ⟨by decide, by decide, by decide⟩
theorem esc_ne {s : ByteArray} {i : Nat} {l : List S86} {sg : Bool} {a : Nat} (h : escF s i = .ok (l, sg) a) : l ≠ [] := by
  unfold escF at h
  cases hp : peekF s i with
  | none => rw [hp] at h; cases h
  | some c =>
    rw [hp] at h
    dsimp only at h
    split at h
    · rename_i hs
      injection h with h1 h2
      injection h1 with h1 h3
      rw [← h1]; exact hs
    · split at h
      · cases h
      · injection h with h1 h2
        injection h1 with h1 h3
        rw [← h1]; simp
theorem mem_ne {s : ByteArray} {i : Nat} {l : List S86} {sg : Bool} {a : Nat} (h : memF s i = .ok (l, sg) a) : l ≠ [] := by
  unfold memF at h
  cases hp : peekF s i with
  | none => rw [hp] at h; cases h
  | some c =>
    rw [hp] at h
    dsimp only at h
    split at h
    · cases h
    · split at h
      · exact esc_ne h
      · injection h with h1 h2
        injection h1 with h1 h3
        rw [← h1]; simp
theorem mem_facts {c : Int} (h : ¬ noMem c) : (c == -1) = false ∧ (c == 91) = false ∧ (c == 93) = false ∧ (c == 94) = false ∧ (c == 45) = false := by
  unfold noMem at h
  refine ⟨?_, ?_, ?_, ?_, ?_⟩ <;> (rw [beq_eq_false_iff_ne]; intro e; exact h (by simp [e]))
set_option maxHeartbeats 1000000 in
set_option maxRecDepth 100000 in
theorem mem_ok {w : World} {b : Nat} {s : ByteArray} {at_ d sz : Nat} (h : Rd w b s at_ d sz) {l : List S86} {sg : Bool} {a2 : Nat} (hf : memF s at_ = .ok (l, sg) a2) : Calls Tryd.prog 58 #[.pointer (some ⟨b, 0, none⟩)] w fun x w' => ∃ v, x = .returned (.tuple #[v, .bool sg]) ∧ Rd w' b s a2 d sz ∧ Stp b w w' ∧ Spn w w' v l := by
  unfold memF at hf
  cases hp : peekF s at_ with
  | none => rw [hp] at hf; cases hf
  | some c =>
    rw [hp] at hf
    dsimp only at hf
    have HP := Aside0.mk hp
    have HH := Aside0.mk h
    by_cases hn : noMem c
    · rw [if_pos hn] at hf; cases hf
    rw [if_neg hn] at hf
    have hc : Rune c ∧ at_ + rl c ≤ s.size := (peek_rune h.le hp).resolve_left (fun e => hn (.inl e))
    have HC := Aside0.mk hc
    obtain ⟨f1, f2, f3, f4, f5⟩ := mem_facts hn
    by_cases h92 : c = 92
    · rw [if_pos h92] at hf
      subst h92
      have HF := Aside0.mk (show escF s (at_ + rl 92) = _ from hf)
      clear hf hn hc hp h f1 f2 f3 f4 f5
      go_enter Tryd.func58, Tryd.ntmps58
      go_wp2_with (first
        | (go_at_call 36; (with_reducible refine (peek_ok HH.out HP.out).mono ?_); rintro e w1 ⟨rfl, hb⟩; have HB1 := Aside0.mk hb; have H1 := Aside0.mk (HH.out.below hb); clear hb)
        | (go_at_call 37; (with_reducible refine (skip_calls H1.out rune92 HC.out.2).mono ?_); rintro e w3 ⟨rfl, h3, hs3⟩; have H3 := Aside0.mk h3; have HS3 := Aside0.mk hs3; clear h3 hs3)
        | (go_at_call 53; (with_reducible refine (esc_ok H3.out HF.out).mono ?_); rintro e w4 ⟨v, rfl, h4, hs4, hR⟩; have H4 := Aside0.mk h4; have HS4 := Aside0.mk hs4; have HR := Aside0.mk hR; obtain ⟨g4, c4, rfl, _⟩ := hR; clear h4 hs4))
      go_ret2
      exact ⟨_, rfl, H4.out, (Stp.of HB1.out).trans (HS3.out.trans HS4.out), HR.out.lower (Nat.le_trans HB1.out.size HS3.out.size)⟩
    · rw [if_neg h92] at hf
      injection hf with e1 e2
      injection e1 with e1 e3
      subst e1 e2 e3
      have f6 : (c == 92) = false := beq_eq_false_iff_ne.2 h92
      clear hn hc hp h h92
      go_enter Tryd.func58, Tryd.ntmps58
      go_wp2_with (first
        | (go_at_call 36; (with_reducible refine (peek_ok HH.out HP.out).mono ?_); rintro e w1 ⟨rfl, hb⟩; have HB1 := Aside0.mk hb; have H1 := Aside0.mk (HH.out.below hb); clear hb)
        | (go_at_call 37; (with_reducible refine (skip_calls H1.out HC.out.1 HC.out.2).mono ?_); rintro e w3 ⟨rfl, h3, hs3⟩; have H3 := Aside0.mk h3; have HS3 := Aside0.mk hs3; clear h3 hs3))
      go_ret2
      exact ⟨_, rfl, H3.out.below (below_alloc (Below.refl _ _) _), (Stp.of HB1.out).trans (HS3.out.trans (Stp.of (below_alloc (Below.refl _ _) _))), Spn.mk1 (Nat.le_trans HB1.out.size HS3.out.size) (blk_new _ _)⟩
set_option maxHeartbeats 1000000 in
set_option maxRecDepth 100000 in
theorem mem_bad {w : World} {b : Nat} {s : ByteArray} {at_ d sz : Nat} (h : Rd w b s at_ d sz) {a2 : Nat} {E : Int} (hf : memF s at_ = .bad a2 E) : Calls Tryd.prog 58 #[.pointer (some ⟨b, 0, none⟩)] w fun x w' => x = .panicked (flt a2 E) ∧ Stp b w w' := by
  unfold memF at hf
  cases hp : peekF s at_ with
  | none =>
    rw [hp] at hf
    injection hf with e1 e2
    subst e1 e2
    have HP := Aside0.mk hp
    have HH := Aside0.mk h
    clear hp h
    go_enter Tryd.func58, Tryd.ntmps58
    go_wp2_with (first
      | (go_at_call 36; (with_reducible refine (peek_no HH.out HP.out).mono ?_); rintro e w1 ⟨rfl, hb⟩; have HB1 := Aside0.mk hb; clear hb))
    exact ⟨rfl, rfl, Stp.of HB1.out⟩
  | some c =>
    rw [hp] at hf
    dsimp only at hf
    have HP := Aside0.mk hp
    have HH := Aside0.mk h
    by_cases hn : noMem c
    · rw [if_pos hn] at hf
      injection hf with e1 e2
      subst e1 e2
      clear hp h
      rcases hn with e | e | e | e | e
      all_goals
        subst e
        go_enter Tryd.func58, Tryd.ntmps58
        go_wp2_with (first
          | (go_at_call 36; (with_reducible refine (peek_ok HH.out HP.out).mono ?_); rintro e w1 ⟨rfl, hb⟩; have HB1 := Aside0.mk hb; have H1 := Aside0.mk (HH.out.below hb); clear hb)
          | (go_at_call 23; (with_reducible refine (bad_calls H1.out 8).mono ?_); rintro e w' ⟨rfl, rfl⟩))
        exact ⟨rfl, rfl, Stp.of HB1.out⟩
    rw [if_neg hn] at hf
    have hc : Rune c ∧ at_ + rl c ≤ s.size := (peek_rune h.le hp).resolve_left (fun e => hn (.inl e))
    have HC := Aside0.mk hc
    by_cases h92 : c = 92
    · rw [if_pos h92] at hf
      subst h92
      have HF := Aside0.mk (show escF s (at_ + rl 92) = _ from hf)
      clear hf hn hc hp h
      go_enter Tryd.func58, Tryd.ntmps58
      go_wp2_with (first
        | (go_at_call 36; (with_reducible refine (peek_ok HH.out HP.out).mono ?_); rintro e w1 ⟨rfl, hb⟩; have HB1 := Aside0.mk hb; have H1 := Aside0.mk (HH.out.below hb); clear hb)
        | (go_at_call 37; (with_reducible refine (skip_calls H1.out rune92 HC.out.2).mono ?_); rintro e w3 ⟨rfl, h3, hs3⟩; have H3 := Aside0.mk h3; have HS3 := Aside0.mk hs3; clear h3 hs3)
        | (go_at_call 53; (with_reducible refine (esc_bad H3.out HF.out).mono ?_); rintro e w4 ⟨rfl, hs4⟩; have HS4 := Aside0.mk hs4; clear hs4))
      exact ⟨rfl, rfl, (Stp.of HB1.out).trans (HS3.out.trans HS4.out)⟩
    · rw [if_neg h92] at hf; cases hf
/-- What stands behind a hyphen. -/
def upF (s : ByteArray) (lo : Int) (i : Nat) : Res Int := match peekF s i with
  | none => .bad i 8
  | some c => if c = 92 ∧ lo > 125 then .bad i 8 else match memF s i with
    | .bad a e => .bad a e
    | .ok (l, sg) a => if sg = false ∨ (l.getD 0 z86).f0 < lo then .bad (if c = 92 then i + 1 else i) 8 else .ok (l.getD 0 z86).f0 a
theorem Spn.at0 {w w' : World} {g n c : Nat} {l : List S86} (h : Spn w w' (.slice (some ⟨g, 0, none⟩) n c) l) (hl : l ≠ []) : w'.cell? ⟨g, 0, none⟩ = some (.int .i32 (l.getD 0 z86).f0) ∧ w'.cell? ⟨g, 1, none⟩ = some (.int .i32 (l.getD 0 z86).f1) ∧ (0 : Int) < (n : Int) ∧ n = l.length := by
  obtain ⟨g', c', hv, hR⟩ := h
  have hn := (Kd.R_reads' hR).1
  have hp := List.length_pos_iff.2 hl
  obtain ⟨cs, hl2, hM, hcell, _⟩ := Kd.R_elem hR z86 0 (by omega) (by omega)
  have hk := k86_openM hM
  subst hk
  exact ⟨hcell 0 _ rfl, hcell 1 _ rfl, by omega, hn⟩
set_option maxHeartbeats 1000000 in
set_option maxRecDepth 100000 in
theorem up_ok {w : World} {b : Nat} {s : ByteArray} {at_ d sz : Nat} (h : Rd w b s at_ d sz) {lo hi : Int} {a2 : Nat} (hf : upF s lo at_ = .ok hi a2) : Calls Tryd.prog 59 #[.pointer (some ⟨b, 0, none⟩), .int .i32 lo] w fun x w' => x = .returned (.int .i32 hi) ∧ Rd w' b s a2 d sz ∧ Stp b w w' := by
  unfold upF at hf
  cases hp : peekF s at_ with
  | none => rw [hp] at hf; cases hf
  | some c =>
    rw [hp] at hf
    dsimp only at hf
    have HP := Aside0.mk hp
    have HH := Aside0.mk h
    by_cases hb : c = 92 ∧ lo > 125
    · rw [if_pos hb] at hf; cases hf
    rw [if_neg hb] at hf
    cases hm : memF s at_ with
    | bad a e => rw [hm] at hf; cases hf
    | ok lm a =>
      obtain ⟨l, sg⟩ := lm
      rw [hm] at hf
      dsimp only at hf
      by_cases hx : sg = false ∨ (l.getD 0 z86).f0 < lo
      · rw [if_pos hx] at hf; cases hf
      rw [if_neg hx] at hf
      injection hf with e1 e2
      subst e1 e2
      have hsg : sg = true := by cases sg; exact absurd (.inl rfl) hx; rfl
      subst hsg
      have hlt : ¬ (l.getD 0 z86).f0 < lo := fun e => hx (.inr e)
      have HM := Aside0.mk hm
      have HNE := Aside0.mk (mem_ne hm)
      obtain ⟨c0, c1, c2, c3⟩ := h.cell
      have cq : (c == 92) = false ∨ ((c == 92) = true ∧ ¬ lo > 125) := by
        by_cases e : c = 92
        · exact .inr ⟨by simp [e], fun h => hb ⟨e, h⟩⟩
        · exact .inl (beq_eq_false_iff_ne.2 e)
      generalize hlo : (l.getD 0 z86).f0 = hi at *
      have HLO := Aside0.mk hlo
      clear hx hm hb hp h hlo
      rcases cq with cq | ⟨cq, clo⟩
      all_goals
        go_enter Tryd.func59, Tryd.ntmps59
        go_wp2_with (first
          | (go_at_call 36; (with_reducible refine (peek_ok HH.out HP.out).mono ?_); rintro e w1 ⟨rfl, hb⟩; have HB1 := Aside0.mk hb; have H1 := Aside0.mk (HH.out.below hb); clear hb)
          | (go_at_call 58; (with_reducible refine (mem_ok H1.out HM.out).mono ?_); rintro e w4 ⟨v, rfl, h4, hs4, hR⟩; have H4 := Aside0.mk h4; have HS4 := Aside0.mk hs4; obtain ⟨g4, c4, rfl, _⟩ := id hR; obtain ⟨y0, y1, yn, yl⟩ := Spn.at0 hR HNE.out; rw [HLO.out] at y0; have HR := Aside0.mk hR; generalize l.length = nn at *; clear h4 hs4 hR yl c0 c1 c2 c3))
        go_ret
        exact ⟨rfl, H4.out, (Stp.of HB1.out).trans HS4.out⟩
theorem Rd.setv {w : World} {b : Nat} {s : ByteArray} {at_ d sz a2 : Nat} (h : Rd w b s at_ d sz) {v : Int} (hv : v = (a2 : Int)) (hl : a2 ≤ s.size) : Rd (w.setCell ⟨b, 1, none⟩ (.int .i64 v)) b s a2 d sz := by rw [hv]; exact h.set1 hl
set_option maxHeartbeats 1000000 in
set_option maxRecDepth 100000 in
theorem up_bad {w : World} {b : Nat} {s : ByteArray} {at_ d sz : Nat} (h : Rd w b s at_ d sz) {lo : Int} {a2 : Nat} {E : Int} (hf : upF s lo at_ = .bad a2 E) : Calls Tryd.prog 59 #[.pointer (some ⟨b, 0, none⟩), .int .i32 lo] w fun x w' => x = .panicked (flt a2 E) ∧ Stp b w w' := by
  unfold upF at hf
  obtain ⟨c0, c1, c2, c3⟩ := h.cell
  cases hp : peekF s at_ with
  | none =>
    rw [hp] at hf
    injection hf with e1 e2
    subst e1 e2
    have HP := Aside0.mk hp
    have HH := Aside0.mk h
    clear hp h
    go_enter Tryd.func59, Tryd.ntmps59
    go_wp2_with (first
      | (go_at_call 36; (with_reducible refine (peek_no HH.out HP.out).mono ?_); rintro e w1 ⟨rfl, hb⟩; have HB1 := Aside0.mk hb; clear hb))
    exact ⟨rfl, rfl, Stp.of HB1.out⟩
  | some c =>
    rw [hp] at hf
    dsimp only at hf
    have HP := Aside0.mk hp
    have HH := Aside0.mk h
    have HSH := Aside0.mk h.short
    have HLE := Aside0.mk h.le
    by_cases hb : c = 92 ∧ lo > 125
    · rw [if_pos hb] at hf
      injection hf with e1 e2
      subst e1 e2
      obtain ⟨rfl, hlo⟩ := hb
      clear hp h
      go_enter Tryd.func59, Tryd.ntmps59
      go_wp2_with (first
        | (go_at_call 36; (with_reducible refine (peek_ok HH.out HP.out).mono ?_); rintro e w1 ⟨rfl, hb⟩; have HB1 := Aside0.mk hb; have H1 := Aside0.mk (HH.out.below hb); clear hb)
        | (go_at_call 23; (with_reducible refine (bad_calls H1.out 8).mono ?_); rintro e w' ⟨rfl, rfl⟩))
      exact ⟨rfl, rfl, Stp.of HB1.out⟩
    rw [if_neg hb] at hf
    have cq : ((c == 92) = false ∧ (if c = 92 then at_ + 1 else at_) = at_) ∨ ((c == 92) = true ∧ ¬ lo > 125 ∧ (if c = 92 then at_ + 1 else at_) = at_ + 1 ∧ at_ + 1 ≤ s.size) := by
      by_cases e : c = 92
      · refine .inr ⟨by simp [e], fun h => hb ⟨e, h⟩, if_pos e, ?_⟩
        have := (peek_rune h.le hp).resolve_left (fun e' => by omega)
        have h2 : rl c = 1 := by rw [e]; rfl
        have := this.2
        omega
      · exact .inl ⟨beq_eq_false_iff_ne.2 e, if_neg e⟩
    cases hm : memF s at_ with
    | bad a e =>
      rw [hm] at hf
      injection hf with e1 e2
      subst e1 e2
      have HM := Aside0.mk hm
      clear hm hb hp h
      rcases cq with ⟨cq, _⟩ | ⟨cq, clo, _⟩
      all_goals
        go_enter Tryd.func59, Tryd.ntmps59
        go_wp2_with (first
          | (go_at_call 36; (with_reducible refine (peek_ok HH.out HP.out).mono ?_); rintro e w1 ⟨rfl, hb⟩; have HB1 := Aside0.mk hb; have H1 := Aside0.mk (HH.out.below hb); clear hb)
          | (go_at_call 58; (with_reducible refine (mem_bad H1.out HM.out).mono ?_); rintro e w4 ⟨rfl, hs4⟩; have HS4 := Aside0.mk hs4; clear hs4))
        exact ⟨rfl, rfl, (Stp.of HB1.out).trans HS4.out⟩
    | ok lm a =>
      obtain ⟨l, sg⟩ := lm
      rw [hm] at hf
      dsimp only at hf
      by_cases hx : sg = false ∨ (l.getD 0 z86).f0 < lo
      · rw [if_pos hx] at hf
        injection hf with e1 e2
        subst e2
        have HM := Aside0.mk hm
        have HNE := Aside0.mk (mem_ne hm)
        have hsc : sg = false ∨ (sg = true ∧ (l.getD 0 z86).f0 < lo) := by
          cases sg
          · exact .inl rfl
          · exact .inr ⟨rfl, hx.resolve_left (fun e => by cases e)⟩
        generalize hlo : (l.getD 0 z86).f0 = hi at *
        have HLO := Aside0.mk hlo
        clear hx hm hb hp h hlo
        rcases cq with ⟨cq, ca⟩ | ⟨cq, clo, ca, cl⟩
        · rw [ca] at e1
          subst e1
          clear ca
          rcases hsc with rfl | ⟨rfl, hsc⟩
          all_goals
            go_enter Tryd.func59, Tryd.ntmps59
            go_wp2_with (first
              | (go_at_call 36; (with_reducible refine (peek_ok HH.out HP.out).mono ?_); rintro e w1 ⟨rfl, hb⟩; have HB1 := Aside0.mk hb; have H1 := Aside0.mk (HH.out.below hb); clear hb)
              | (go_at_call 58; (with_reducible refine (mem_ok H1.out HM.out).mono ?_); rintro e w4 ⟨v, rfl, h4, hs4, hR⟩; have H4 := Aside0.mk h4; have HS4 := Aside0.mk hs4; obtain ⟨g4, c4, rfl, _⟩ := id hR; obtain ⟨y0, y1, yn, yl⟩ := Spn.at0 hR HNE.out; rw [HLO.out] at y0; generalize l.length = nn at *; clear c0 c1 c2 c3; have c1 := h4.cell.2.1; have f1 := h4.frozen 1; clear h4 hs4 hR yl)
              | (go_at_call 23; (with_reducible refine (bad_calls (Rd.setv H4.out rfl HLE.out) 8).mono ?_); rintro e w' ⟨rfl, rfl⟩))
            exact ⟨rfl, rfl, (Stp.of HB1.out).trans (HS4.out.trans (Stp.set 1 _))⟩
        · rw [ca] at e1
          subst e1
          clear ca
          have HW := Aside0.mk (show wrap64 ((at_ : Int) + 1) = ((at_ + 1 : Nat) : Int) by have := HSH.out; have := HLE.out; unfold wrap64; omega)
          have HCL := Aside0.mk cl
          clear cl
          rcases hsc with rfl | ⟨rfl, hsc⟩
          all_goals
            go_enter Tryd.func59, Tryd.ntmps59
            go_wp2_with (first
              | (go_at_call 36; (with_reducible refine (peek_ok HH.out HP.out).mono ?_); rintro e w1 ⟨rfl, hb⟩; have HB1 := Aside0.mk hb; have H1 := Aside0.mk (HH.out.below hb); clear hb)
              | (go_at_call 58; (with_reducible refine (mem_ok H1.out HM.out).mono ?_); rintro e w4 ⟨v, rfl, h4, hs4, hR⟩; have H4 := Aside0.mk h4; have HS4 := Aside0.mk hs4; obtain ⟨g4, c4, rfl, _⟩ := id hR; obtain ⟨y0, y1, yn, yl⟩ := Spn.at0 hR HNE.out; rw [HLO.out] at y0; generalize l.length = nn at *; clear c0 c1 c2 c3; have c1 := h4.cell.2.1; have f1 := h4.frozen 1; clear h4 hs4 hR yl)
              | (go_at_call 23; (with_reducible refine (bad_calls (Rd.setv H4.out HW.out HCL.out) 8).mono ?_); rintro e w' ⟨rfl, rfl⟩))
            exact ⟨rfl, rfl, (Stp.of HB1.out).trans (HS4.out.trans (Stp.set 1 _))⟩
      · rw [if_neg hx] at hf; cases hf
--MORE
end Go.Proofs.YtmfpikhmeacnbaaDoor.X
