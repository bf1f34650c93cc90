/- Patterns by hand: escape, member, upper (mkX2.py). -/
import Derived.Test.YtmfpikhmeacnbaaDoorX1
namespace Go.Proofs.YtmfpikhmeacnbaaDoor.X
open Go.RowKit Go.Proofs.YtmfpikhmeacnbaaDoor.Q Go.Proofs.YtmfpikhmeacnbaaDoorW.PrintWords Go.Proofs.YtmfpikhmeacnbaaDoorW.PrintLast Go.Proofs.YtmfpikhmeacnbaaDoorW.PrintMore
set_option linter.unusedVariables false
set_option linter.unusedSimpArgs false
/-- What a reader reads: something, and the place behind it; or where there is a fault, and which. -/
inductive Res (α : Type) where
  | ok (a : α) (at_ : Nat)
  | bad (at_ : Nat) (e : Int)
def shortsL (c : Int) : List S86 := if c = 100 then [⟨48, 57⟩] else if c = 119 then [⟨48, 57⟩, ⟨65, 90⟩, ⟨97, 122⟩, ⟨95, 95⟩] else if c = 115 then [⟨32, 32⟩, ⟨9, 9⟩, ⟨10, 10⟩] else []
theorem shorts_f (c : Int) : rex_shorts.f c = some (shortsL c) := by
  unfold rex_shorts.f shortsL
  repeat' split
  all_goals rfl
theorem shorts_eq {c : Int} (h : shortsL c ≠ []) : c = 100 ∨ c = 119 ∨ c = 115 := by
  unfold shortsL at h
  by_cases a : c = 100
  · exact .inl a
  by_cases b : c = 119
  · exact .inr (.inl b)
  by_cases d : c = 115
  · exact .inr (.inr d)
  · rw [if_neg a, if_neg b, if_neg d] at h; exact absurd rfl h
/-- The spans that have been read, in memory of their own. -/
def Spn (w w' : World) (v : Value) (l : List S86) : Prop := ∃ g c2, v = .slice (some ⟨g, 0, none⟩) l.length c2 ∧ k86.R 86 w' w.heap.size (fun k => w.heap.size ≤ k) v l
theorem Spn.stp {w w1 w2 : World} {b : Nat} {v : Value} {l : List S86} (h : Spn w w1 v l) (hs : Stp b w1 w2) (hb : b < w.heap.size) : Spn w w2 v l := by
  obtain ⟨g, c2, hv, hR⟩ := h
  exact ⟨g, c2, hv, Kd.R_step hR (fun k hk hlt => hs.block k hlt (by omega))⟩
theorem Spn.lower {w w1 w2 : World} {v : Value} {l : List S86} (h : Spn w1 w2 v l) (hs : w.heap.size ≤ w1.heap.size) : Spn w w2 v l := by
  obtain ⟨g, c2, hv, hR⟩ := h
  exact ⟨g, c2, hv, Kd.R_lower (Kd.R_mono hR (fun k hk => Nat.le_trans hs hk)) hs⟩
theorem shorts_some {c : Int} (h : shortsL c ≠ []) (w : World) : Calls Tryd.prog 60 #[.int .i32 c] w fun x w' => ∃ g c2, x = .returned (.slice (some ⟨g, 0, none⟩) (shortsL c).length c2) ∧ Spn w w' (.slice (some ⟨g, 0, none⟩) (shortsL c).length c2) (shortsL c) ∧ Below w.heap.size w w' := by
  refine (rex_shorts.calls c _ w (shorts_f c)).mono fun x w' ⟨v, hx, hR, hb⟩ => ?_
  obtain ⟨g, c2, hv, _⟩ := Kd.R_form hR (List.length_pos_iff.2 h)
  subst hv
  exact ⟨g, c2, hx, ⟨g, c2, rfl, Kd.R_mono (Kd.R_bound hR) (fun k hk => hk.2.1)⟩, hb⟩
set_option maxHeartbeats 1000000 in
set_option maxRecDepth 100000 in
theorem shorts_none {c : Int} (h : shortsL c = []) (w : World) : Calls Tryd.prog 60 #[.int .i32 c] w fun x w' => x = .returned (.slice none 0 0) ∧ w' = w := by
  unfold shortsL at h
  by_cases a : c = 100
  · rw [if_pos a] at h; cases h
  rw [if_neg a] at h
  by_cases b : c = 119
  · rw [if_pos b] at h; cases h
  rw [if_neg b] at h
  by_cases d : c = 115
  · rw [if_pos d] at h; cases h
  have a' : (c == 100) = false := beq_eq_false_iff_ne.2 a
  have b' : (c == 119) = false := beq_eq_false_iff_ne.2 b
  have d' : (c == 115) = false := beq_eq_false_iff_ne.2 d
  clear a b d h
  go_enter Tryd.func60, Tryd.ntmps60
  go_wp2
  go_ret
  exact ⟨rfl, rfl⟩
/-- A rune that stands in a text has as many bytes as it must. -/
theorem decode_rune (t : ByteArray) (h : ¬ t.size = 0) : ((Utf8.decode t 0).1 = 65533 ∧ (Utf8.decode t 0).2 < 2) ∨ (Rune ((Utf8.decode t 0).1 : Nat) ∧ rl ((Utf8.decode t 0).1 : Nat) = (Utf8.decode t 0).2 ∧ (Utf8.decode t 0).2 ≤ t.size) := by
  have hs : 0 < t.size := by omega
  have h255 : ∀ k : Nat, (t.get! k).toNat < 256 := fun k => (t.get! k).toNat_lt
  have a0 := h255 (0 + 0)
  have a1 := h255 (0 + 1)
  have a2 := h255 (0 + 2)
  have a3 := h255 (0 + 3)
  obtain ⟨p, hp⟩ : ∃ p, Utf8.decode t 0 = p := ⟨_, rfl⟩
  rw [hp]
  unfold Utf8.decode at hp
  dsimp only at hp
  have hv : ∀ c : Nat, Utf8.valid (c : Int) = true → (c < 55296 ∨ (57344 ≤ c ∧ c ≤ 1114111)) := fun c h => by
    unfold Utf8.valid at h
    simp only [Bool.or_eq_true, Bool.and_eq_true, decide_eq_true_eq] at h
    omega
  have e2 : ∀ a b c d : Prop, True := fun _ _ _ _ => trivial
  split at hp
  · subst hp
    refine .inr ⟨⟨?_, ?_, ?_⟩, ?_, ?_⟩
    · dsimp only; omega
    · dsimp only; omega
    · dsimp only; omega
    · unfold rl; dsimp only; rw [if_pos (by omega)]
    · dsimp only; omega
  split at hp
  · rename_i hc
    simp only [Bool.and_eq_true, decide_eq_true_eq, beq_iff_eq] at hc
    split at hp
    · subst hp
      refine .inr ⟨⟨?_, ?_, ?_⟩, ?_, ?_⟩
      · dsimp only; omega
      · dsimp only; omega
      · dsimp only; omega
      · unfold rl; dsimp only; rw [if_neg (by omega), if_pos (by omega)]
      · dsimp only; omega
    · subst hp; exact .inl ⟨rfl, by decide⟩
  split at hp
  · rename_i hc
    simp only [Bool.and_eq_true, decide_eq_true_eq, beq_iff_eq] at hc
    split at hp
    · rename_i hg
      simp only [Bool.and_eq_true, decide_eq_true_eq] at hg
      have hvv := hv _ hg.2
      subst hp
      refine .inr ⟨⟨?_, ?_, ?_⟩, ?_, ?_⟩
      · dsimp only; omega
      · dsimp only; omega
      · dsimp only; omega
      · unfold rl; dsimp only; rw [if_neg (by omega), if_neg (by omega), if_pos (by omega)]
      · dsimp only; omega
    · subst hp; exact .inl ⟨rfl, by decide⟩
  split at hp
  · rename_i hc
    simp only [Bool.and_eq_true, decide_eq_true_eq, beq_iff_eq] at hc
    split at hp
    · rename_i hg
      simp only [Bool.and_eq_true, decide_eq_true_eq] at hg
      have hvv := hv _ hg.2
      subst hp
      refine .inr ⟨⟨?_, ?_, ?_⟩, ?_, ?_⟩
      · dsimp only; omega
      · dsimp only; omega
      · dsimp only; omega
      · unfold rl; dsimp only; rw [if_neg (by omega), if_neg (by omega), if_neg (by omega)]
      · dsimp only; omega
    · subst hp; exact .inl ⟨rfl, by decide⟩
  · subst hp; exact .inl ⟨rfl, by decide⟩
theorem peek_rune {s : ByteArray} {i : Nat} {c : Int} (hi : i ≤ s.size) (h : peekF s i = some c) : c = -1 ∨ (Rune c ∧ i + rl c ≤ s.size) := by
  unfold peekF at h
  by_cases he : s.size ≤ i
  · rw [if_pos he] at h
    exact .inl (Option.some.inj h).symm
  · rw [if_neg he] at h
    have hz : (subS s i).size = s.size - i := by unfold subS; rw [ByteArray.size_extract]; omega
    have hd : Lib.decodeGo (subS s i) = Utf8.decode (subS s i) 0 := by unfold Lib.decodeGo; rw [if_neg (by omega)]
    rw [hd] at h
    split at h
    · cases h
    · rename_i hn
      have e := Option.some.inj h
      rcases decode_rune (subS s i) (by omega) with hb | ⟨h1, h2, h3⟩
      · exact absurd hb hn
      · rw [e] at h1 h2
        exact .inr ⟨h1, by omega⟩
/-- What stands behind a backslash. -/
def escF (s : ByteArray) (i : Nat) : Res (List S86 × Bool) := match peekF s i with
  | none => .bad i 8
  | some c => if shortsL c ≠ [] then .ok (shortsL c, false) (i + rl c) else if c < 0 ∨ (special c = false ∧ c ≠ 45 ∧ c ≠ 47) then .bad i 8 else .ok ([⟨c, c⟩], true) (i + rl c)
theorem Spn.mk1 {w w1 : World} {c : Int} {b : Nat} (hb : w.heap.size ≤ b) (h : w1.heap[b]? = some (.cells #[.int .i32 c, .int .i32 c] 86 (0, 0))) : Spn w w1 (.slice (some ⟨b, 0, none⟩) 1 1) [⟨c, c⟩] := by
  refine ⟨b, 1, rfl, fun k hk => by have e : b = k := by simpa [Value.ownBlock] using hk
                                    omega, [.int .i32 c, .int .i32 c], ?_, ?_⟩
  · exact ⟨rfl, .inr ⟨b, 1, _, rfl, hb, h, Nat.le_refl _, by unfold maxLen; omega, rfl, rfl⟩⟩
  · exact ⟨rfl, fun j p hj => by
      match j, hj with
      | 0, hj => cases hj; exact k86_mkM _ _ _ _⟩
set_option maxHeartbeats 1000000 in
set_option maxRecDepth 100000 in
theorem esc_ok {w : World} {b : Nat} {s : ByteArray} {at_ d sz : Nat} (h : Rd w b s at_ d sz) {l : List S86} {sg : Bool} {a2 : Nat} (hf : escF s at_ = .ok (l, sg) a2) : Calls Tryd.prog 53 #[.pointer (some ⟨b, 0, none⟩)] w fun x w' => ∃ v, x = .returned (.tuple #[v, .bool sg]) ∧ Rd w' b s a2 d sz ∧ Stp b w w' ∧ Spn w w' v l := by
  unfold escF at hf
  cases hp : peekF s at_ with
  | none => rw [hp] at hf; cases hf
  | some c =>
    rw [hp] at hf
    dsimp only at hf
    have HP := Aside0.mk hp
    have HH := Aside0.mk h
    by_cases hs : shortsL c ≠ []
    · rw [if_pos hs] at hf
      injection hf with e1 e2
      injection e1 with e1 e3
      subst e1 e2 e3
      have hc : Rune c ∧ at_ + rl c ≤ s.size := (peek_rune h.le hp).resolve_left (fun e => by rcases shorts_eq hs with h | h | h <;> omega)
      have HC := Aside0.mk hc
      have HS := Aside0.mk hs
      clear hs hc hp h
      go_enter Tryd.func53, Tryd.ntmps53
      go_wp2_with (first
        | (go_at_call 36; (with_reducible refine (peek_ok HH.out HP.out).mono ?_); rintro e w1 ⟨rfl, hb⟩; have HB1 := Aside0.mk hb; have H1 := Aside0.mk (HH.out.below hb); clear hb)
        | (go_at_call 60; (with_reducible refine (shorts_some HS.out _).mono ?_); rintro e w2 ⟨g, c2, rfl, hR, hb⟩; have HB2 := Aside0.mk hb; have HR := Aside0.mk hR; have H2 := Aside0.mk (H1.out.below hb); clear hb hR)
        | (go_at_call 37; (with_reducible refine (skip_calls H2.out HC.out.1 HC.out.2).mono ?_); rintro e w3 ⟨rfl, h3, hs3⟩; have H3 := Aside0.mk h3; have HS3 := Aside0.mk hs3; clear h3 hs3))
      go_ret2
      exact ⟨_, rfl, H3.out, (Stp.of HB1.out).trans ((Stp.of HB2.out).trans HS3.out), (HR.out.stp HS3.out (Nat.lt_of_lt_of_le HH.out.lt HB1.out.size)).lower HB1.out.size⟩
    · rw [if_neg hs] at hf
      by_cases hb : c < 0 ∨ (special c = false ∧ c ≠ 45 ∧ c ≠ 47)
      · rw [if_pos hb] at hf; cases hf
      · rw [if_neg hb] at hf
        injection hf with e1 e2
        injection e1 with e1 e3
        subst e1 e2 e3
        have h0 : ¬ c < 0 := fun e => hb (.inl e)
        have hc : Rune c ∧ at_ + rl c ≤ s.size := (peek_rune h.le hp).resolve_left (fun e => by omega)
        have HC := Aside0.mk hc
        have HS := Aside0.mk (show shortsL c = [] from Classical.byContradiction hs)
        have hcc : special c = true ∨ (special c = false ∧ ((c != 45) = false ∨ ((c != 45) = true ∧ (c != 47) = false))) := by
          cases hsp : special c with
          | true => exact .inl rfl
          | false =>
            refine .inr ⟨rfl, ?_⟩
            by_cases e : c = 45
            · exact .inl (by simp [e])
            · by_cases e' : c = 47
              · exact .inr (by simp [e'])
              · exact absurd (.inr ⟨hsp, e, e'⟩) hb
        clear hs hc hp h hb
        rcases hcc with hsp | ⟨hsp, h45 | ⟨h45, h47⟩⟩
        all_goals
          have HSP := Aside0.mk hsp
          clear hsp
          go_enter Tryd.func53, Tryd.ntmps53
          go_wp2_with (first
            | (go_at_call 36; (with_reducible refine (peek_ok HH.out HP.out).mono ?_); rintro e w1 ⟨rfl, hb⟩; have HB1 := Aside0.mk hb; have H1 := Aside0.mk (HH.out.below hb); clear hb)
            | (go_at_call 60; (with_reducible refine (shorts_none HS.out _).mono ?_); rintro e w' ⟨rfl, rfl⟩)
            | (go_at_call 31; (with_reducible refine (special_calls c _).mono ?_); rw [HSP.out]; rintro e w2 ⟨rfl, hb⟩; have HB2 := Aside0.mk hb; have H2 := Aside0.mk (H1.out.below hb); clear hb)
            | (go_at_call 37; (with_reducible refine (skip_calls H2.out HC.out.1 HC.out.2).mono ?_); rintro e w3 ⟨rfl, h3, hs3⟩; have H3 := Aside0.mk h3; have HS3 := Aside0.mk hs3; clear h3 hs3))
          go_ret2
          refine ⟨_, rfl, H3.out.below (below_alloc (Below.refl _ _) _), (Stp.of HB1.out).trans ((Stp.of HB2.out).trans (HS3.out.trans (Stp.of (below_alloc (Below.refl _ _) _)))), Spn.mk1 (Nat.le_trans HB1.out.size (Nat.le_trans HB2.out.size HS3.out.size)) (blk_new _ _)⟩
set_option maxHeartbeats 1000000 in
set_option maxRecDepth 100000 in
theorem esc_bad {w : World} {b : Nat} {s : ByteArray} {at_ d sz : Nat} (h : Rd w b s at_ d sz) {a2 : Nat} {E : Int} (hf : escF s at_ = .bad a2 E) : Calls Tryd.prog 53 #[.pointer (some ⟨b, 0, none⟩)] w fun x w' => x = .panicked (flt a2 E) ∧ Stp b w w' := by
  unfold escF at hf
  cases hp : peekF s at_ with
  | none =>
    rw [hp] at hf
    injection hf with e1 e2
    subst e1 e2
    have HP := Aside0.mk hp
    have HH := Aside0.mk h
    clear hp h
    go_enter Tryd.func53, Tryd.ntmps53
    go_wp2_with (go_at_call 36; (with_reducible refine (peek_no HH.out HP.out).mono ?_); rintro e w1 ⟨rfl, hb⟩; have HB1 := Aside0.mk hb; clear hb)
    exact ⟨rfl, rfl, Stp.of HB1.out⟩
  | some c =>
    rw [hp] at hf
    dsimp only at hf
    have HP := Aside0.mk hp
    have HH := Aside0.mk h
    by_cases hs : shortsL c ≠ []
    · rw [if_pos hs] at hf; cases hf
    rw [if_neg hs] at hf
    by_cases hb : c < 0 ∨ (special c = false ∧ c ≠ 45 ∧ c ≠ 47)
    · rw [if_pos hb] at hf
      injection hf with e1 e2
      subst e1 e2
      have HS := Aside0.mk (show shortsL c = [] from Classical.byContradiction hs)
      clear hs hp h
      by_cases h0 : c < 0
      · clear hb
        go_enter Tryd.func53, Tryd.ntmps53
        go_wp2_with (first
          | (go_at_call 36; (with_reducible refine (peek_ok HH.out HP.out).mono ?_); rintro e w1 ⟨rfl, hb⟩; have HB1 := Aside0.mk hb; have H1 := Aside0.mk (HH.out.below hb); clear hb)
          | (go_at_call 60; (with_reducible refine (shorts_none HS.out _).mono ?_); rintro e w' ⟨rfl, rfl⟩)
          | (go_at_call 23; (with_reducible refine (bad_calls H1.out 8).mono ?_); rintro e w' ⟨rfl, rfl⟩))
        exact ⟨rfl, rfl, Stp.of HB1.out⟩
      · obtain ⟨hsp, n45, n47⟩ := hb.resolve_left h0
        have h45 : (c != 45) = true := bne_iff_ne.2 n45
        have h47 : (c != 47) = true := bne_iff_ne.2 n47
        have HSP := Aside0.mk hsp
        clear hb hsp n45 n47
        go_enter Tryd.func53, Tryd.ntmps53
        go_wp2_with (first
          | (go_at_call 36; (with_reducible refine (peek_ok HH.out HP.out).mono ?_); rintro e w1 ⟨rfl, hb⟩; have HB1 := Aside0.mk hb; have H1 := Aside0.mk (HH.out.below hb); clear hb)
          | (go_at_call 60; (with_reducible refine (shorts_none HS.out _).mono ?_); rintro e w' ⟨rfl, rfl⟩)
          | (go_at_call 31; (with_reducible refine (special_calls c _).mono ?_); rw [HSP.out]; rintro e w2 ⟨rfl, hb⟩; have HB2 := Aside0.mk hb; have H2 := Aside0.mk (H1.out.below hb); clear hb)
          | (go_at_call 23; (with_reducible refine (bad_calls H2.out 8).mono ?_); rintro e w' ⟨rfl, rfl⟩))
        exact ⟨rfl, rfl, (Stp.of HB1.out).trans (Stp.of HB2.out)⟩
    · rw [if_neg hb] at hf; cases hf
end Go.Proofs.YtmfpikhmeacnbaaDoor.X
