import Derived.Test.YtmfpikhmeacnbaaDoorXA
/- Patterns by hand: class (mkX5.py). -/
namespace Go.Proofs.YtmfpikhmeacnbaaDoor.X
open Go.RowKit Go.Proofs.YtmfpikhmeacnbaaDoor.Q Go.Proofs.YtmfpikhmeacnbaaDoorW.PrintWords Go.Proofs.YtmfpikhmeacnbaaDoorW.PrintLast Go.Proofs.YtmfpikhmeacnbaaDoorW.PrintMore
set_option linter.unusedVariables false
set_option linter.unusedSimpArgs false
theorem rl_pos (c : Int) : 1 ≤ rl c := by unfold rl; split <;> (try split) <;> (try split) <;> omega
theorem shorts_len (c : Int) : (shortsL c).length ≤ 4 := by unfold shortsL; split <;> (try split) <;> (try split) <;> decide
theorem esc_len {s : ByteArray} {i j : Nat} {l : List S86} {sg : Bool} (h : escF s i = .ok (l, sg) j) : l.length ≤ 4 ∧ i + 1 ≤ j := by
  unfold escF at h
  cases hp : peekF s i with
  | none => rw [hp] at h; cases h
  | some c =>
    rw [hp] at h
    dsimp only at h
    have := rl_pos c
    split at h
    · injection h with h1 h2
      injection h1 with h1 h3
      subst h1 h2
      exact ⟨shorts_len c, by omega⟩
    · split at h
      · cases h
      · injection h with h1 h2
        injection h1 with h1 h3
        subst h1 h2
        exact ⟨by simp, by omega⟩
theorem mem_len {s : ByteArray} {i j : Nat} {l : List S86} {sg : Bool} (h : memF s i = .ok (l, sg) j) : l.length ≤ 4 ∧ i + 1 ≤ j := by
  unfold memF at h
  cases hp : peekF s i with
  | none => rw [hp] at h; cases h
  | some c =>
    rw [hp] at h
    dsimp only at h
    have := rl_pos c
    split at h
    · cases h
    · split at h
      · have := esc_len h; omega
      · injection h with h1 h2
        injection h1 with h1 h3
        subst h1 h2
        exact ⟨by simp, by omega⟩
theorem up_len {s : ByteArray} {i j : Nat} {lo hi : Int} (h : upF s lo i = .ok hi j) : i + 1 ≤ j := by
  unfold upF at h
  cases hp : peekF s i with
  | none => rw [hp] at h; cases h
  | some c =>
    rw [hp] at h
    dsimp only at h
    split at h
    · cases h
    · cases hm : memF s i with
      | bad a e => rw [hm] at h; cases h
      | ok lm a =>
        obtain ⟨l, sg⟩ := lm
        rw [hm] at h
        dsimp only at h
        split at h
        · cases h
        · injection h with h1 h2
          subst h2
          exact (mem_len hm).2
/-- What is left to do in a round of a class behind its head. -/
def ClsB (k : Nat) (s : ByteArray) (i : Nat) (acc : List S86) (RL : Res (List S86)) : Prop :=
  (∃ a e, memF s i = .bad a e ∧ RL = .bad a e) ∨
  (∃ l j, memF s i = .ok (l, false) j ∧ clsL k s j (acc ++ l) false = some RL) ∨
  (∃ l j, memF s i = .ok (l, true) j ∧ peekF s j = none ∧ RL = .bad j 8) ∨
  (∃ l j c2, memF s i = .ok (l, true) j ∧ peekF s j = some c2 ∧ (c2 == 45) = false ∧ clsL k s j (acc ++ l) false = some RL) ∨
  (∃ l j a e, memF s i = .ok (l, true) j ∧ peekF s j = some 45 ∧ upF s (l.getD 0 z86).f0 (j + 1) = .bad a e ∧ RL = .bad a e) ∨
  (∃ l j hi j2, memF s i = .ok (l, true) j ∧ peekF s j = some 45 ∧ upF s (l.getD 0 z86).f0 (j + 1) = .ok hi j2 ∧ clsL k s j2 (acc ++ [⟨(l.getD 0 z86).f0, hi⟩]) false = some RL)
theorem clsL_head {k : Nat} {s : ByteArray} {i : Nat} {acc : List S86} {first : Bool} {RL : Res (List S86)} (h : clsL (k + 1) s i acc first = some RL) :
    (first = true ∧ ClsB k s i acc RL) ∨ (first = false ∧ ∃ c, peekF s i = some c ∧ (c != 93) = true ∧ ClsB k s i acc RL) ∨ (first = false ∧ peekF s i = none ∧ RL = .bad i 8) ∨ (first = false ∧ peekF s i = some 93 ∧ RL = .ok acc i) := by
  have hB : (match memF s i with
      | .bad a e => some (.bad a e)
      | .ok (l, sg) j => if sg = true then
          match peekF s j with
          | none => some (.bad j 8)
          | some c2 => if c2 = 45 then
              match upF s (l.getD 0 z86).f0 (j + 1) with
              | .bad a e => some (.bad a e)
              | .ok hi j2 => clsL k s j2 (acc ++ [⟨(l.getD 0 z86).f0, hi⟩]) false
            else clsL k s j (acc ++ l) false
        else clsL k s j (acc ++ l) false : Option (Res (List S86))) = some RL → ClsB k s i acc RL := by
    intro h
    cases hm : memF s i with
    | bad a e => rw [hm] at h; exact .inl ⟨a, e, hm, (Option.some.inj h).symm⟩
    | ok lm j =>
      obtain ⟨l, sg⟩ := lm
      rw [hm] at h
      dsimp only at h
      cases sg with
      | false => rw [if_neg (by decide)] at h; exact .inr (.inl ⟨l, j, hm, h⟩)
      | true =>
        rw [if_pos rfl] at h
        cases hp : peekF s j with
        | none => rw [hp] at h; exact .inr (.inr (.inl ⟨l, j, hm, hp, (Option.some.inj h).symm⟩))
        | some c2 =>
          rw [hp] at h
          dsimp only at h
          by_cases e : c2 = 45
          · subst e
            rw [if_pos rfl] at h
            cases hu : upF s (l.getD 0 z86).f0 (j + 1) with
            | bad a e => rw [hu] at h; exact .inr (.inr (.inr (.inr (.inl ⟨l, j, a, e, hm, hp, hu, (Option.some.inj h).symm⟩))))
            | ok hi j2 => rw [hu] at h; exact .inr (.inr (.inr (.inr (.inr ⟨l, j, hi, j2, hm, hp, hu, h⟩))))
          · rw [if_neg e] at h
            exact .inr (.inr (.inr (.inl ⟨l, j, c2, hm, hp, beq_eq_false_iff_ne.2 e, h⟩)))
  rw [clsL] at h
  cases first with
  | true =>
    rw [if_pos rfl] at h
    exact .inl ⟨rfl, hB h⟩
  | false =>
    rw [if_neg (by decide)] at h
    cases hp : peekF s i with
    | none => rw [hp] at h; exact .inr (.inr (.inl ⟨rfl, rfl, (Option.some.inj h).symm⟩))
    | some c =>
      rw [hp] at h
      dsimp only at h
      by_cases e : c = 93
      · rw [if_pos e] at h
        exact .inr (.inr (.inr ⟨rfl, by rw [e], (Option.some.inj h).symm⟩))
      · rw [if_neg e] at h
        exact .inr (.inl ⟨rfl, c, rfl, bne_iff_ne.2 e, hB h⟩)
theorem rune45 : Rune 45 := ⟨by decide, by decide, by decide⟩
theorem rune93 : Rune 93 := ⟨by decide, by decide, by decide⟩
theorem rune94 : Rune 94 := ⟨by decide, by decide, by decide⟩
theorem rune40 : Rune 40 := ⟨by decide, by decide, by decide⟩
theorem rune41 : Rune 41 := ⟨by decide, by decide, by decide⟩
theorem rune124 : Rune 124 := ⟨by decide, by decide, by decide⟩
theorem Rd.setz {w : World} {b : Nat} {s : ByteArray} {at_ d sz z2 : Nat} (h : Rd w b s at_ d sz) {v : Int} (hv : v = (z2 : Int)) : Rd (w.setCell ⟨b, 3, none⟩ (.int .i64 v)) b s at_ d z2 := by rw [hv]; exact h.set3
/-- A reader, where another block is turned. -/
theorem Rd.far {w : World} {b : Nat} {s : ByteArray} {at_ d sz : Nat} (h : Rd w b s at_ d sz) {X : Nat} (hX : X ≠ b) (h2 : 2 ≤ X) (o : Nat) (v : Value) : Rd (w.setCell ⟨X, o, none⟩ v) b s at_ d sz :=
  ⟨(Below.heap_setCell _ _ _ b (fun e => hX e.symm)).trans h.blk, h.tab.move (fun k hk _ => Below.heap_setCell _ _ _ k (fun e => by have e' : k = X := e; omega)), h.two, h.short, h.le⟩
theorem Rd.grown {w w1 : World} {b : Nat} {s : ByteArray} {at_ d sz : Nat} (h : Rd w b s at_ d sz) (hb : ∀ k, k < w.heap.size → (k = b ∨ k < 2) → w1.heap[k]? = w.heap[k]?) : Rd w1 b s at_ d sz :=
  ⟨(hb b h.lt (.inl rfl)).trans h.blk, h.tab.move (fun k hk hl => hb k hl (.inr hk)), h.two, h.short, h.le⟩
theorem Stp.far {b : Nat} {w w1 : World} (h : Stp b w w1) {X : Nat} (hX : w.heap.size ≤ X) (o : Nat) (v : Value) : Stp b w (w1.setCell ⟨X, o, none⟩ v) :=
  ⟨h.os, h.tape, h.output, by simpa using h.size, fun k hk hn => (Below.heap_setCell _ _ _ k (fun e => by have e' : k = X := e; omega)).trans (h.block k hk hn)⟩
theorem Stp.grown {b n : Nat} {w w1 w2 : World} (h : Stp b w w1) (hb : Below n w1 w2) (hn : w.heap.size ≤ n) : Stp b w w2 :=
  ⟨hb.os.trans h.os, hb.tape.trans h.tape, hb.output.trans h.output, Nat.le_trans h.size hb.size, fun k hk hne => (hb.block k (by omega)).trans (h.block k hk hne)⟩
/-- The cells of a part. -/
theorem nd_cell {w : World} {X : Nat} {k : Int} {vs vp : Value} {but pl : Bool} {sg : Int} (h : w.heap[X]? = some (.cells (ndL k vs but pl vp sg).toArray 74 (0, 0))) :
    w.cell? ⟨X, 0, none⟩ = some (.int .i64 k) ∧ w.cell? ⟨X, 1, none⟩ = some vs ∧ w.cell? ⟨X, 2, none⟩ = some (.bool but) ∧ w.cell? ⟨X, 3, none⟩ = some (.bool pl) ∧ w.cell? ⟨X, 4, none⟩ = some vp ∧ w.cell? ⟨X, 5, none⟩ = some (.int .i32 sg) :=
  ⟨(blk_cell h 0).trans rfl, (blk_cell h 1).trans rfl, (blk_cell h 2).trans rfl, (blk_cell h 3).trans rfl, (blk_cell h 4).trans rfl, (blk_cell h 5).trans rfl⟩
theorem nd_frozen {w : World} {X : Nat} {cs : List Value} (h : w.heap[X]? = some (.cells cs.toArray 74 (0, 0))) (o : Nat) : w.frozen? ⟨X, o, none⟩ = false := by simp [World.frozen?, h]
/-- What a parser's function leaves. -/
def PostP (b : Nat) (s : ByteArray) (d sz : Nat) (w : World) (R : Res (Pt × Nat)) : Ending → World → Prop := fun x w' => match R with
  | .ok (p, m) j => ∃ q, x = .returned (.pointer (some ⟨q, 0, none⟩)) ∧ Rd w' b s j d (sz + m) ∧ Stp b w w' ∧ Tr w' w.heap.size (fun k => w.heap.size ≤ k) q p
  | .bad j e => x = .panicked (flt j e) ∧ Stp b w w'
def clsR (but : Bool) : Res (List S86) → Res (Pt × Nat)
  | .ok l j => .ok (.one l but false, 1) (j + 1)
  | .bad j e => .bad j e
theorem nd_one {w w' : World} {X : Nat} {A : Option Addr} {cc : Nat} {l : List S86} {but pl : Bool} (hX : w.heap.size ≤ X) (h : w'.heap[X]? = some (.cells (ndL 0 (.slice A l.length cc) but pl (.slice none 0 0) 0).toArray 74 (0, 0))) (hl : k86.R 86 w' w.heap.size (fun k => w.heap.size ≤ k) (.slice A l.length cc) l) :
    Tr w' w.heap.size (fun k => w.heap.size ≤ k) X (.one l but pl) := ⟨[], rfl, hX, hX, _, _, h, hl, Kd.R_nil _ _ _ _ _⟩
theorem Spn.addr {w w' : World} {g n c : Nat} {l : List S86} (h : Spn w w' (.slice (some ⟨g, 0, none⟩) n c) l) : w.heap.size ≤ g ∧ g < w'.heap.size := by
  obtain ⟨g', c', hv, hR⟩ := h
  have hg : (Value.slice (some ⟨g, 0, none⟩) n c).ownBlock = some g := rfl
  exact ⟨hR.1 g hg, Kd.R_lt hR g hg⟩
theorem Spn.rows {w w' : World} {g n c : Nat} {l : List S86} (h : Spn w w' (.slice (some ⟨g, 0, none⟩) n c) l) : ReadsRow (k86.K w') k86.sz w' (some ⟨g, 0, none⟩) l.length l ∧ n = l.length := by
  obtain ⟨g', c', hv, hR⟩ := h
  exact ⟨(Kd.R_reads' hR).2.2, (Kd.R_reads' hR).1⟩
theorem cell_keep {w w1 : World} {p : Addr} {v : Value} (h : w.cell? p = some v) (hb : w1.heap[p.block]? = w.heap[p.block]?) : w1.cell? p = some v := by
  unfold World.cell? at h ⊢
  rw [hb]
  exact h
theorem Spn.mk1' {w w1 : World} {lo hi : Int} {b : Nat} (hb : w.heap.size ≤ b) (h : w1.heap[b]? = some (.cells #[.int .i32 lo, .int .i32 hi] 86 (0, 0))) : Spn w w1 (.slice (some ⟨b, 0, none⟩) 1 1) [⟨lo, hi⟩] := by
  refine ⟨b, 1, rfl, fun k hk => by have e : b = k := by simpa [Value.ownBlock] using hk
                                    omega, [.int .i32 lo, .int .i32 hi], ?_, ?_⟩
  · exact ⟨rfl, .inr ⟨b, 1, _, rfl, hb, h, Nat.le_refl _, by unfold maxLen; omega, rfl, rfl⟩⟩
  · exact ⟨rfl, fun j p hj => by
      match j, hj with
      | 0, hj => cases hj; exact k86_mkM _ _ _ _⟩
theorem esc_le {s : ByteArray} {i j : Nat} {l : List S86} {sg : Bool} (hi : i ≤ s.size) (h : escF s i = .ok (l, sg) j) : j ≤ s.size := by
  unfold escF at h
  cases hp : peekF s i with
  | none => rw [hp] at h; cases h
  | some c =>
    rw [hp] at h
    dsimp only at h
    have hr := peek_rune hi hp
    split at h
    · rename_i hs
      injection h with h1 h2
      have := (hr.resolve_left (fun e => by rcases shorts_eq hs with h | h | h <;> omega)).2
      omega
    · split at h
      · cases h
      · rename_i hn
        injection h with h1 h2
        have := (hr.resolve_left (fun e => hn (.inl (by omega)))).2
        omega
theorem mem_le {s : ByteArray} {i j : Nat} {l : List S86} {sg : Bool} (hi : i ≤ s.size) (h : memF s i = .ok (l, sg) j) : j ≤ s.size := by
  unfold memF at h
  cases hp : peekF s i with
  | none => rw [hp] at h; cases h
  | some c =>
    rw [hp] at h
    dsimp only at h
    have hr := peek_rune hi hp
    split at h
    · cases h
    · rename_i hn
      have := (hr.resolve_left (fun e => hn (.inl e))).2
      split at h
      · rename_i h92
        rw [h92] at this
        exact esc_le this h
      · injection h with h1 h2
        omega
def cls.T11 : Bool × List (List Nat × List Nat) := (true, [([], []), ([0], [0]), ([1], [1]), ([2], [2]), ([], []), ([], []), ([5], [5]), ([6], [6]), ([7], [7]), ([4, 8], [4, 8]), ([3, 9], [3, 9]), ([10], [10]), ([11, 9, 0, 1, 2, 3, 4, 5, 6, 7, 8, 9, 10, 11], [0, 5, 11])])
def cls.B11 : List Nat := [0, 1, 3, 7, 0, 0, 32, 96, 224, 496, 1023, 2047, 4095]
theorem cls.tab11 : rtab .any (opsOf Tryd.f52 11) = cls.T11 := by kernel_rfl
theorem cls.bits11 : waitsOk cls.T11.2 cls.B11 = true := by kernel_rfl
set_option maxHeartbeats 4000000 in
set_option maxRecDepth 100000 in
theorem cls_calls {w : World} {b : Nat} {s : ByteArray} {i d sz : Nat} (h : Rd w b s i d sz) (hz : sz ≤ i) {k : Nat} {R : Res (Pt × Nat)} (hf : clsF k s i = some R) : Calls Tryd.prog 52 #[.pointer (some ⟨b, 0, none⟩)] w (PostP b s d sz w R) := by
  unfold clsF at hf
  have HH := Aside0.mk h
  have HSZ := Aside0.mk hz
  clear hz
  cases hp : peekF s i with
  | none =>
    rw [hp] at hf
    obtain rfl := Option.some.inj hf
    have HP := Aside0.mk hp
    clear hp h hf
    go_enter Tryd.func52, Tryd.ntmps52
    go_wp2_with (first
      | ((with_reducible refine gate_dst (N := 8) rfl ?_); refine box_event ?hg (N := 8) ?hd (cs := (ndL 0 (.slice none 0 0) false false (.slice none 0 0) 0).toArray) (t := 74) ?hr ?_; (case hd => rfl); (case hg => rfl); (case hr => first | (go_simp; done) | (go_simp; rfl)); intro X hX w1 hx1 hb1; have HX := Aside0.mk hX; have HB1 := Aside0.mk hb1; have H1 := Aside0.mk (HH.out.below hb1); clear hX hx1 hb1)
      | (go_at_call 36; (with_reducible refine (peek_no H1.out HP.out).mono ?_); rintro e w2 ⟨rfl, hb⟩; have HB2 := Aside0.mk hb; clear hb))
    exact ⟨rfl, rfl, (Stp.of HB1.out).trans (Stp.of HB2.out)⟩
  | some c =>
    rw [hp] at hf
    dsimp only at hf
    have HI := Aside0.mk h.le
    have HC := Aside0.mk (peek_rune h.le hp)
    obtain ⟨but, hbut⟩ : ∃ but, decide (c = 94) = but := ⟨_, rfl⟩
    obtain ⟨i1, hi1⟩ : ∃ i1, (if c = 94 then i + 1 else i) = i1 := ⟨_, rfl⟩
    rw [hbut, hi1] at hf
    cases hL : clsL k s i1 [] true with
    | none => rw [hL] at hf; cases hf
    | some RL =>
      rw [hL] at hf
      have hRR : clsR but RL = R := by
        cases RL with
        | ok l j => exact Option.some.inj hf
        | bad a e => exact Option.some.inj hf
      subst hRR
      have HL := Aside0.mk hL
      have HP := Aside0.mk hp
      have hcc : (c = 94 ∧ but = true ∧ i1 = i + 1) ∨ ((c == 94) = false ∧ but = false ∧ i1 = i) := by
        by_cases e : c = 94
        · exact .inl ⟨e, by rw [← hbut]; exact decide_eq_true e, by rw [← hi1]; exact if_pos e⟩
        · exact .inr ⟨beq_eq_false_iff_ne.2 e, by rw [← hbut]; exact decide_eq_false e, by rw [← hi1]; exact if_neg e⟩
      clear hL hf hbut hi1 hp h
      have HE : ∃ X W1, Aside0 (w.heap.size ≤ X) ∧ True := ⟨w.heap.size, w, ⟨Nat.le_refl _⟩, trivial⟩
      clear HE
      rcases hcc with ⟨rfl, rfl, rfl⟩ | ⟨hc94, rfl, rfl⟩
      · have HC1 := Aside0.mk (show i + rl 94 ≤ s.size from (HC.out.resolve_left (by decide)).2)
        go_enter Tryd.func52, Tryd.ntmps52
        go_wp2_with (first
          | ((with_reducible refine gate_dst (N := 8) rfl ?_); refine box_event ?hg (N := 8) ?hd (cs := (ndL 0 (.slice none 0 0) false false (.slice none 0 0) 0).toArray) (t := 74) ?hr ?_; (case hd => rfl); (case hg => rfl); (case hr => first | (go_simp; done) | (go_simp; rfl)); intro X hX w1 hx1 hb1; have HX := Aside0.mk hX; have HXB1 := Aside0.mk hx1; have HB1 := Aside0.mk hb1; have H1 := Aside0.mk (HH.out.below hb1); clear hX hx1 hb1)
          | (go_at_call 36; (with_reducible refine (peek_ok H1.out HP.out).mono ?_); rintro e w2 ⟨rfl, hb⟩; have HB2 := Aside0.mk hb; have H2 := Aside0.mk (H1.out.below hb); have HXB2 := Aside0.mk ((hb.block X (blk_lt HXB1.out)).trans HXB1.out); clear hb)
          | (go_at_call 37; (with_reducible refine (skip_calls H2.out rune94 HC1.out).mono ?_); rintro e w3 ⟨rfl, h3, hs3⟩; have H3 := Aside0.mk h3; have HS3 := Aside0.mk hs3; have hXb : X ≠ b := (fun e => by have h1 := HH.out.lt; have h2 := HX.out; omega); have HXb := Aside0.mk hXb; have HXB3 := Aside0.mk ((hs3.block X (blk_lt HXB2.out) hXb).trans HXB2.out); clear h3 hs3 hXb; obtain ⟨x0, x1, x2, x3, x4, x5⟩ := nd_cell HXB3.out; have xf := nd_frozen HXB3.out 2))
        have HRD := Aside0.mk (show Rd (w3.setCell ⟨X, 2, none⟩ (.bool true)) b s (i + 1) d sz from Rd.far H3.out HXb.out (by have h1 := HH.out.lt; have h2 := HX.out; have h3 := HH.out.two; omega) 2 (.bool true))
        have HXB := Aside0.mk (show (w3.setCell ⟨X, 2, none⟩ (.bool true)).heap[X]? = some (.cells (ndL 0 (.slice none 0 0) true false (.slice none 0 0) 0).toArray 74 (0, 0)) from blk_put HXB3.out 2 _ rfl)
        have HST := Aside0.mk (show Stp b w (w3.setCell ⟨X, 2, none⟩ (.bool true)) from (((Stp.of HB1.out).trans (Stp.of HB2.out)).trans HS3.out).far (by rw [HX.out]; exact Nat.le_refl _) 2 (.bool true))
        have HSL := Aside0.mk (show sz ≤ i + 1 from by have := HSZ.out; omega)
        generalize w3.setCell ⟨X, 2, none⟩ (.bool true) = W1 at *
        clear x0 x1 x2 x3 x4 x5 xf H1 H2 H3 HXB1 HXB2 HXB3 HB1 HB2 HS3 HC1
        try go_frame
        go_loopg [4] k (fun kq v4 wr => ∃ (i2 : Nat) (first : Bool) (acc : List S86) (A : Option Addr) (cc : Nat), v4 = .bool first ∧ Aside0 (clsL kq s i2 acc first = some RL) ∧ Aside0 (Rd wr b s i2 d sz) ∧ Aside0 (Stp b w wr) ∧ Aside0 (wr.heap[X]? = some (.cells (ndL 0 (.slice A acc.length cc) true false (.slice none 0 0) 0).toArray 74 (0, 0))) ∧ Aside0 (k86.R 86 wr w.heap.size (fun q => w.heap.size ≤ q ∧ q ≠ X) (.slice A acc.length cc) acc) ∧ Aside0 (acc.length ≤ 4 * i2 ∧ sz ≤ i2))
        case atStart => exact ⟨_, true, [], none, 0, rfl, HL, HRD, HST, HXB, ⟨Kd.R_nil _ _ _ _ _⟩, ⟨by simp, HSL.out⟩⟩
        case round =>
          clear HRD HST HXB HL HSL
          obtain ⟨i2, first, acc, A, cc, rfl, HF, HR, HS, HXB, HA, HB⟩ := hrel
          cases gk with
          | zero => exact absurd HF.out (by simp [clsL])
          | succ k1 =>
          have hd := clsL_head HF.out
          rcases hd with ⟨rfl, hB⟩ | ⟨rfl, c1, hp1, hne, hB⟩ | ⟨rfl, hp1, rfl⟩ | ⟨rfl, hp1, rfl⟩
          · skip
            rcases hB with ⟨a1, e1, hm, rfl⟩ | ⟨l, j, hm, hN⟩ | ⟨l, j, hm, hp2, rfl⟩ | ⟨l, j, c2, hm, hp2, h45, hN⟩ | ⟨l, j, a1, e1, hm, hp2, hu, rfl⟩ | ⟨l, j, hi, j2, hm, hp2, hu, hN⟩
            · have HM := Aside0.mk hm
              clear hm
              go_wp2_with (first
                | (go_at_call 58; (with_reducible refine (mem_bad HR.out HM.out).mono ?_); rintro e w2 ⟨rfl, hs⟩; have HS2 := Aside0.mk (HS.out.trans hs); clear hs))
              exact ⟨rfl, rfl, HS2.out⟩
            · have HM := Aside0.mk hm
              have HLL := Aside0.mk (mem_len hm)
              clear hm
              have HN := Aside0.mk hN
              clear hN
              go_wp2_with (first
                | (go_at_call 58; (with_reducible refine (mem_ok HR.out HM.out).mono ?_); rintro e w2 ⟨v, rfl, h2, hs, hSp⟩; obtain ⟨g4, c4, rfl, _⟩ := id hSp; have H2 := Aside0.mk h2; have HSP := Aside0.mk hSp; have HS2 := Aside0.mk (HS.out.trans hs); have HXB2 := Aside0.mk ((hs.block X (blk_lt HXB.out) HXb.out).trans HXB.out); have HA2 := Aside0.mk (Kd.R_step HA.out (fun q hq hlt => hs.block q hlt (by have h1 := HH.out.lt; have h2 := hq.1; omega))); clear h2 hs hSp; obtain ⟨x0, x1, x2, x3, x4, x5⟩ := nd_cell HXB2.out; have xf := nd_frozen HXB2.out 1; have HBW := Aside0.mk HR.out.lt)
                | ((with_reducible refine gate_builtin (b := .append) (xs := #[.tmp 52, .tmp 53]) rfl ?_); at_builtin; refine Kd.R_append_rows k86 (w0 := w2) w.heap.size rfl (.tmp 52) (.tmp 53) 71 86 (.agg #[.int .i32 0, .int .i32 0]) 8 rfl Tryd.underlying71 info86 rfl (by decide) (by omega) (.slice A acc.length cc) acc l (some ⟨g4, 0, none⟩) l.length c4 (fun q => w.heap.size ≤ q ∧ q ≠ X) (fun _ => False) rfl rfl HA2.out (Spn.rows HSP.out).1 (fun x cs hK => by rw [k86_open hK]; exact k86_mkM _ _ _ _) (fun _ hq => hq.elim) (fun q hq => ⟨Nat.le_trans HS2.out.size hq, fun e => by have := blk_lt HXB2.out; omega⟩) (Below.refl _ _) HS2.out.size ?aL ?_; (case aL => have h1 := HB.out; have h2 := HLL.out; have h3 := HR.out.short; have h4 := HR.out.le; omega); intro v5 w5 ho hb5 hg5 hat5; obtain ⟨A5, c5, rfl⟩ := Kd.R_slice ho; have HO := Aside0.mk ho; have HXB5 := Aside0.mk ((hg5.block X (blk_lt HXB2.out) (fun e => (HA2.out.1 X e.symm).2 rfl)).trans HXB2.out); have HB5 := Aside0.mk hb5; clear ho hb5 hg5 hat5 x0 x1 x2 x3 x4 x5 xf; obtain ⟨x0, x1, x2, x3, x4, x5⟩ := nd_cell HXB5.out; have xf := nd_frozen HXB5.out 1))
              go_roundg k1
              case measure => omega
              case rel => exact ⟨j, false, _, A5, c5, rfl, ⟨HN.out⟩, ⟨Rd.far (Rd.grown H2.out (fun q hq hq2 => HB5.out.block q (by have h1 := HH.out.lt; have h2 := HH.out.two; omega))) HXb.out (by have h1 := HH.out.lt; have h2 := HX.out; have h3 := HH.out.two; omega) _ _⟩, ⟨(HS2.out.grown HB5.out (Nat.le_refl _)).far (by rw [HX.out]; exact Nat.le_refl _) _ _⟩, ⟨blk_put HXB5.out 1 _ (by (try simp only [List.length_append, List.length_cons, List.length_nil]); rfl)⟩, ⟨Kd.R_far HO.out (fun q hq => hq.2) _⟩, ⟨by rw [List.length_append]; have h1 := HB.out; have h2 := HLL.out; omega, by have h1 := HB.out; have h2 := HLL.out; omega⟩⟩
            · have HM := Aside0.mk hm
              have HLL := Aside0.mk (mem_len hm)
              clear hm
              have HP2 := Aside0.mk hp2
              clear hp2
              go_wp2_with (first
                | (go_at_call 58; (with_reducible refine (mem_ok HR.out HM.out).mono ?_); rintro e w2 ⟨v, rfl, h2, hs, hSp⟩; obtain ⟨g4, c4, rfl, _⟩ := id hSp; have H2 := Aside0.mk h2; have HSP := Aside0.mk hSp; have HS2 := Aside0.mk (HS.out.trans hs); have HXB2 := Aside0.mk ((hs.block X (blk_lt HXB.out) HXb.out).trans HXB.out); have HA2 := Aside0.mk (Kd.R_step HA.out (fun q hq hlt => hs.block q hlt (by have h1 := HH.out.lt; have h2 := hq.1; omega))); clear h2 hs hSp; obtain ⟨x0, x1, x2, x3, x4, x5⟩ := nd_cell HXB2.out; have xf := nd_frozen HXB2.out 1; have HBW := Aside0.mk HR.out.lt)
                | (go_at_call 36; (with_reducible refine (peek_no H2.out HP2.out).mono ?_); rintro e w3 ⟨rfl, hb⟩; have HS3 := Aside0.mk (HS2.out.trans (Stp.of hb)); clear hb))
              exact ⟨rfl, rfl, HS3.out⟩
            · have HM := Aside0.mk hm
              have HLL := Aside0.mk (mem_len hm)
              clear hm
              have HP2 := Aside0.mk hp2
              have HN := Aside0.mk hN
              clear hp2 hN
              go_wp2_with (first
                | (go_at_call 58; (with_reducible refine (mem_ok HR.out HM.out).mono ?_); rintro e w2 ⟨v, rfl, h2, hs, hSp⟩; obtain ⟨g4, c4, rfl, _⟩ := id hSp; have H2 := Aside0.mk h2; have HSP := Aside0.mk hSp; have HS2 := Aside0.mk (HS.out.trans hs); have HXB2 := Aside0.mk ((hs.block X (blk_lt HXB.out) HXb.out).trans HXB.out); have HA2 := Aside0.mk (Kd.R_step HA.out (fun q hq hlt => hs.block q hlt (by have h1 := HH.out.lt; have h2 := hq.1; omega))); clear h2 hs hSp; obtain ⟨x0, x1, x2, x3, x4, x5⟩ := nd_cell HXB2.out; have xf := nd_frozen HXB2.out 1; have HBW := Aside0.mk HR.out.lt)
                | (go_at_call 36; (with_reducible refine (peek_ok H2.out HP2.out).mono ?_); rintro e w3 ⟨rfl, hb⟩; have H3 := Aside0.mk (H2.out.below hb); have HS3 := Aside0.mk (HS2.out.trans (Stp.of hb)); have HXB3 := Aside0.mk ((hb.block X (blk_lt HXB2.out)).trans HXB2.out); have HA3 := Aside0.mk (Kd.R_below HA2.out hb); have HSP3 := Aside0.mk (HSP.out.stp (Stp.of (b := b) hb) HBW.out); clear hb x0 x1 x2 x3 x4 x5 xf; obtain ⟨x0, x1, x2, x3, x4, x5⟩ := nd_cell HXB3.out; have xf := nd_frozen HXB3.out 1)
                | ((with_reducible refine gate_builtin (b := .append) (xs := #[.tmp 52, .tmp 53]) rfl ?_); at_builtin; refine Kd.R_append_rows k86 (w0 := w3) w.heap.size rfl (.tmp 52) (.tmp 53) 71 86 (.agg #[.int .i32 0, .int .i32 0]) 8 rfl Tryd.underlying71 info86 rfl (by decide) (by omega) (.slice A acc.length cc) acc l (some ⟨g4, 0, none⟩) l.length c4 (fun q => w.heap.size ≤ q ∧ q ≠ X) (fun _ => False) rfl rfl HA3.out (Spn.rows HSP3.out).1 (fun x cs hK => by rw [k86_open hK]; exact k86_mkM _ _ _ _) (fun _ hq => hq.elim) (fun q hq => ⟨Nat.le_trans HS3.out.size hq, fun e => by have := blk_lt HXB3.out; omega⟩) (Below.refl _ _) HS3.out.size ?aL ?_; (case aL => have h1 := HB.out; have h2 := HLL.out; have h3 := HR.out.short; have h4 := HR.out.le; omega); intro v5 w5 ho hb5 hg5 hat5; obtain ⟨A5, c5, rfl⟩ := Kd.R_slice ho; have HO := Aside0.mk ho; have HXB5 := Aside0.mk ((hg5.block X (blk_lt HXB3.out) (fun e => (HA3.out.1 X e.symm).2 rfl)).trans HXB3.out); have HB5 := Aside0.mk hb5; clear ho hb5 hg5 hat5 x0 x1 x2 x3 x4 x5 xf; obtain ⟨x0, x1, x2, x3, x4, x5⟩ := nd_cell HXB5.out; have xf := nd_frozen HXB5.out 1))
              go_roundg k1
              case measure => omega
              case rel => exact ⟨j, false, _, A5, c5, rfl, ⟨HN.out⟩, ⟨Rd.far (Rd.grown H3.out (fun q hq hq2 => HB5.out.block q (by have h1 := HH.out.lt; have h2 := HH.out.two; omega))) HXb.out (by have h1 := HH.out.lt; have h2 := HX.out; have h3 := HH.out.two; omega) _ _⟩, ⟨(HS3.out.grown HB5.out (Nat.le_refl _)).far (by rw [HX.out]; exact Nat.le_refl _) _ _⟩, ⟨blk_put HXB5.out 1 _ (by (try simp only [List.length_append, List.length_cons, List.length_nil]); rfl)⟩, ⟨Kd.R_far HO.out (fun q hq => hq.2) _⟩, ⟨by rw [List.length_append]; have h1 := HB.out; have h2 := HLL.out; omega, by have h1 := HB.out; have h2 := HLL.out; omega⟩⟩
            · have HM := Aside0.mk hm
              have HLL := Aside0.mk (mem_len hm)
              clear hm
              have HP2 := Aside0.mk hp2
              have HNE := Aside0.mk (mem_ne HM.out)
              have HC3 := Aside0.mk (show j + rl 45 ≤ s.size from ((peek_rune (by have h1 := HR.out.le; first | exact mem_le HR.out.le HM.out) hp2).resolve_left (by decide)).2)
              generalize hlo : (l.getD 0 z86).f0 = lo at *
              have HLO := Aside0.mk hlo
              have HU := Aside0.mk hu
              clear hp2 hu hlo
              go_wp2_with (first
                | (go_at_call 58; (with_reducible refine (mem_ok HR.out HM.out).mono ?_); rintro e w2 ⟨v, rfl, h2, hs, hSp⟩; obtain ⟨g4, c4, rfl, _⟩ := id hSp; have H2 := Aside0.mk h2; have HSP := Aside0.mk hSp; have HS2 := Aside0.mk (HS.out.trans hs); have HXB2 := Aside0.mk ((hs.block X (blk_lt HXB.out) HXb.out).trans HXB.out); have HA2 := Aside0.mk (Kd.R_step HA.out (fun q hq hlt => hs.block q hlt (by have h1 := HH.out.lt; have h2 := hq.1; omega))); clear h2 hs hSp; obtain ⟨x0, x1, x2, x3, x4, x5⟩ := nd_cell HXB2.out; have xf := nd_frozen HXB2.out 1; have HBW := Aside0.mk HR.out.lt)
                | (go_at_call 36; (with_reducible refine (peek_ok H2.out HP2.out).mono ?_); rintro e w3 ⟨rfl, hb⟩; have H3 := Aside0.mk (H2.out.below hb); have HS3 := Aside0.mk (HS2.out.trans (Stp.of hb)); have HXB3 := Aside0.mk ((hb.block X (blk_lt HXB2.out)).trans HXB2.out); have HA3 := Aside0.mk (Kd.R_below HA2.out hb); have HSP3 := Aside0.mk (HSP.out.stp (Stp.of (b := b) hb) HBW.out); clear hb x0 x1 x2 x3 x4 x5 xf; obtain ⟨x0, x1, x2, x3, x4, x5⟩ := nd_cell HXB3.out; have xf := nd_frozen HXB3.out 1)
                | (go_at_call 37; (with_reducible refine (skip_calls H3.out rune45 HC3.out).mono ?_); rintro e w4 ⟨rfl, h4, hs⟩; have H4 := Aside0.mk h4; have HS4 := Aside0.mk (HS3.out.trans hs); have HXB4 := Aside0.mk ((hs.block X (blk_lt HXB3.out) HXb.out).trans HXB3.out); have HA4 := Aside0.mk (Kd.R_step HA3.out (fun q hq hlt => hs.block q hlt (by have h1 := HH.out.lt; have h2 := hq.1; omega))); have HSP4 := Aside0.mk (HSP3.out.stp hs HBW.out); clear h4 hs x0 x1 x2 x3 x4 x5 xf))
              have HGB := Aside0.mk (show g4 ≠ b from fun e => by have h1 := (Spn.addr HSP.out).1; have h2 := HBW.out; omega)
              have y0 := (Spn.at0 HSP4.out HNE.out).1
              rw [HLO.out] at y0
              have yl : 0 < l.length := List.length_pos_iff.2 HNE.out
              refine start_ (n := 13) (S := fun w' => w'.cell? ⟨g4, 0, none⟩ = some (.int .i32 lo)) (ds := []) #[false, false, false, false, false, false, false, false, false, false, false, false, false] (by kernel_rfl) rfl rfl (show w4.drew.cell? ⟨g4, 0, none⟩ = some (.int .i32 lo) from y0) (fun hHeld => ?_); refine with_tabW cls.tab11 cls.bits11 (fun HT_ HW_ => ?_)
              have H5 := Aside0.mk (H4.out.below (below_drew1 (Below.refl _ _)))
              have HS5 := Aside0.mk (HS4.out.trans (Stp.of (below_drew1 (Below.refl _ _))))
              have HXB5 := Aside0.mk (((below_drew1 (Below.refl w4.heap.size w4)).block X (blk_lt HXB4.out)).trans HXB4.out)
              have HA5 := Aside0.mk (Kd.R_below HA4.out (below_drew1 (Below.refl _ _)))
              have HG5 := Aside0.mk (show g4 < w4.drew.heap.size from Nat.lt_of_lt_of_le (Spn.addr HSP4.out).2 (below_drew1 (Below.refl w4.heap.size w4)).size)
              generalize w4.drew = W5 at *
              refine pure_ (i := 0) (N := some 36) (v := ?_) (a' := ?_) #[true, false, false, false, false, false, false, false, false, false, false, false, false] rfl rfl (any_of HT_.out (by kernel_rfl)) (fun _ _ _ h => h) (Or.inl ⟨by rfl, ?_⟩) ?_ ?_
              rotate_left
              · intro w'
                go_simp
                with_reducible rfl
              rotate_left
              · simp only [Act.put, List.setIfInBounds_toArray, List.set_cons_zero, List.set_cons_succ, i64_w, i32_w, xu32_w, xu8_w]
                rfl
              refine pure_ (i := 1) (N := some 37) (v := ?_) (a' := ?_) #[true, true, false, false, false, false, false, false, false, false, false, false, false] rfl rfl (any_of HT_.out (by kernel_rfl)) (fun _ _ _ h => h) (Or.inl ⟨by rfl, ?_⟩) ?_ ?_
              rotate_left
              · intro w'
                go_simp
                with_reducible rfl
              rotate_left
              · simp only [Act.put, List.setIfInBounds_toArray, List.set_cons_zero, List.set_cons_succ, i64_w, i32_w, xu32_w, xu8_w]
                rfl
              refine pure_ (i := 2) (N := some 38) (v := ?_) (a' := ?_) #[true, true, true, false, false, false, false, false, false, false, false, false, false] rfl rfl (any_of HT_.out (by kernel_rfl)) (fun _ _ _ h => h) (Or.inl ⟨by rfl, ?_⟩) ?_ ?_
              rotate_left
              · intro w'
                go_simp
                with_reducible rfl
              rotate_left
              · simp only [Act.put, List.setIfInBounds_toArray, List.set_cons_zero, List.set_cons_succ, i64_w, i32_w, xu32_w, xu8_w]
                rfl
              refine pure_ (i := 4) (N := some 40) (v := ?_) (a' := ?_) #[true, true, true, false, true, false, false, false, false, false, false, false, false] rfl rfl (any_of HT_.out (by kernel_rfl)) (fun _ _ _ h => h) (Or.inl ⟨by rfl, ?_⟩) ?_ ?_
              rotate_left
              · intro w'
                go_simp
                with_reducible rfl
              rotate_left
              · simp only [Act.put, List.setIfInBounds_toArray, List.set_cons_zero, List.set_cons_succ, i64_w, i32_w, xu32_w, xu8_w]
                rfl
              refine pure_ (i := 5) (N := some 41) (v := ?_) (a' := ?_) #[true, true, true, false, true, true, false, false, false, false, false, false, false] rfl rfl (any_of HT_.out (by kernel_rfl)) (fun _ _ _ h => h) (Or.inl ⟨by rfl, ?_⟩) ?_ ?_
              rotate_left
              · intro w'
                go_simp
                with_reducible rfl
              rotate_left
              · simp only [Act.put, List.setIfInBounds_toArray, List.set_cons_zero, List.set_cons_succ, i64_w, i32_w, xu32_w, xu8_w]
                rfl
              refine pure_ (i := 6) (N := some 42) (v := ?_) (a' := ?_) #[true, true, true, false, true, true, true, false, false, false, false, false, false] rfl rfl (any_of HT_.out (by kernel_rfl)) (fun _ _ _ h => h) (Or.inl ⟨by rfl, ?_⟩) ?_ ?_
              rotate_left
              · intro w'
                go_simp
                with_reducible rfl
              rotate_left
              · simp only [Act.put, List.setIfInBounds_toArray, List.set_cons_zero, List.set_cons_succ, i64_w, i32_w, xu32_w, xu8_w]
                rfl
              refine pure_ (i := 7) (N := some 43) (v := ?_) (a' := ?_) #[true, true, true, false, true, true, true, true, false, false, false, false, false] rfl rfl (any_of HT_.out (by kernel_rfl)) (fun _ _ _ h => h) (Or.inl ⟨by rfl, ?_⟩) ?_ ?_
              rotate_left
              · intro w'
                go_simp
                with_reducible rfl
              rotate_left
              · simp only [Act.put, List.setIfInBounds_toArray, List.set_cons_zero, List.set_cons_succ, i64_w, i32_w, xu32_w, xu8_w]
                rfl
              refine take_ (i := 3) (N := some 39) (v := ?_) (a' := ?_) #[true, true, true, true, true, true, true, true, false, false, false, false, false] rfl rfl (take_ofW HT_.out HW_.out (by kernel_rfl)) (fun _ _ _ h => h) (Or.inl ⟨by rfl, ?_⟩) hHeld ?_ ?_
              rotate_left
              · rintro w' s0
                go_simp
                with_reducible rfl
              rotate_left
              · simp only [Act.put, List.setIfInBounds_toArray, List.set_cons_zero, List.set_cons_succ, i64_w, i32_w, xu32_w, xu8_w]
                rfl
              refine take_ (i := 8) (N := some 44) (v := ?_) (a' := ?_) #[true, true, true, true, true, true, true, true, true, false, false, false, false] rfl rfl (take_ofW HT_.out HW_.out (by kernel_rfl)) (fun _ _ _ h => h) (Or.inl ⟨by rfl, ?_⟩) hHeld ?_ ?_
              rotate_left
              · rintro w' s0
                go_simp
                with_reducible rfl
              rotate_left
              · simp only [Act.put, List.setIfInBounds_toArray, List.set_cons_zero, List.set_cons_succ, i64_w, i32_w, xu32_w, xu8_w]
                rfl
              refine one_ (i := 9) (N := some 45) #[true, true, true, true, true, true, true, true, true, true, false, false, false] rfl rfl (one_of HT_.out (by kernel_rfl)) (by decide) (fun K hK => ?_)
              refine goesP_ Tryd.func59 (by kernel_rfl) rfl #[.pointer (some ⟨b, 0, none⟩), .int .i32 lo] (by rfl) rfl rfl (by (try simp only [List.map_toArray, List.map_cons, List.map_nil]); first | done | rfl) ?_
              with_reducible refine (up_bad H5.out HU.out).mono ?_
              rintro e w6 ⟨rfl, hs⟩
              exact ⟨_, rfl, rfl, rfl, HS5.out.trans hs⟩
            · have HM := Aside0.mk hm
              have HLL := Aside0.mk (mem_len hm)
              clear hm
              have HP2 := Aside0.mk hp2
              have HNE := Aside0.mk (mem_ne HM.out)
              have HC3 := Aside0.mk (show j + rl 45 ≤ s.size from ((peek_rune (by have h1 := HR.out.le; first | exact mem_le HR.out.le HM.out) hp2).resolve_left (by decide)).2)
              generalize hlo : (l.getD 0 z86).f0 = lo at *
              have HLO := Aside0.mk hlo
              have HU := Aside0.mk hu
              clear hp2 hu hlo
              have HN := Aside0.mk hN
              have HU2 := Aside0.mk (up_len HU.out)
              clear hN
              go_wp2_with (first
                | (go_at_call 58; (with_reducible refine (mem_ok HR.out HM.out).mono ?_); rintro e w2 ⟨v, rfl, h2, hs, hSp⟩; obtain ⟨g4, c4, rfl, _⟩ := id hSp; have H2 := Aside0.mk h2; have HSP := Aside0.mk hSp; have HS2 := Aside0.mk (HS.out.trans hs); have HXB2 := Aside0.mk ((hs.block X (blk_lt HXB.out) HXb.out).trans HXB.out); have HA2 := Aside0.mk (Kd.R_step HA.out (fun q hq hlt => hs.block q hlt (by have h1 := HH.out.lt; have h2 := hq.1; omega))); clear h2 hs hSp; obtain ⟨x0, x1, x2, x3, x4, x5⟩ := nd_cell HXB2.out; have xf := nd_frozen HXB2.out 1; have HBW := Aside0.mk HR.out.lt)
                | (go_at_call 36; (with_reducible refine (peek_ok H2.out HP2.out).mono ?_); rintro e w3 ⟨rfl, hb⟩; have H3 := Aside0.mk (H2.out.below hb); have HS3 := Aside0.mk (HS2.out.trans (Stp.of hb)); have HXB3 := Aside0.mk ((hb.block X (blk_lt HXB2.out)).trans HXB2.out); have HA3 := Aside0.mk (Kd.R_below HA2.out hb); have HSP3 := Aside0.mk (HSP.out.stp (Stp.of (b := b) hb) HBW.out); clear hb x0 x1 x2 x3 x4 x5 xf; obtain ⟨x0, x1, x2, x3, x4, x5⟩ := nd_cell HXB3.out; have xf := nd_frozen HXB3.out 1)
                | (go_at_call 37; (with_reducible refine (skip_calls H3.out rune45 HC3.out).mono ?_); rintro e w4 ⟨rfl, h4, hs⟩; have H4 := Aside0.mk h4; have HS4 := Aside0.mk (HS3.out.trans hs); have HXB4 := Aside0.mk ((hs.block X (blk_lt HXB3.out) HXb.out).trans HXB3.out); have HA4 := Aside0.mk (Kd.R_step HA3.out (fun q hq hlt => hs.block q hlt (by have h1 := HH.out.lt; have h2 := hq.1; omega))); have HSP4 := Aside0.mk (HSP3.out.stp hs HBW.out); clear h4 hs x0 x1 x2 x3 x4 x5 xf))
              have HGB := Aside0.mk (show g4 ≠ b from fun e => by have h1 := (Spn.addr HSP.out).1; have h2 := HBW.out; omega)
              have y0 := (Spn.at0 HSP4.out HNE.out).1
              rw [HLO.out] at y0
              have yl : 0 < l.length := List.length_pos_iff.2 HNE.out
              refine start_ (n := 13) (S := fun w' => w'.cell? ⟨g4, 0, none⟩ = some (.int .i32 lo)) (ds := []) #[false, false, false, false, false, false, false, false, false, false, false, false, false] (by kernel_rfl) rfl rfl (show w4.drew.cell? ⟨g4, 0, none⟩ = some (.int .i32 lo) from y0) (fun hHeld => ?_); refine with_tabW cls.tab11 cls.bits11 (fun HT_ HW_ => ?_)
              have H5 := Aside0.mk (H4.out.below (below_drew1 (Below.refl _ _)))
              have HS5 := Aside0.mk (HS4.out.trans (Stp.of (below_drew1 (Below.refl _ _))))
              have HXB5 := Aside0.mk (((below_drew1 (Below.refl w4.heap.size w4)).block X (blk_lt HXB4.out)).trans HXB4.out)
              have HA5 := Aside0.mk (Kd.R_below HA4.out (below_drew1 (Below.refl _ _)))
              have HG5 := Aside0.mk (show g4 < w4.drew.heap.size from Nat.lt_of_lt_of_le (Spn.addr HSP4.out).2 (below_drew1 (Below.refl w4.heap.size w4)).size)
              generalize w4.drew = W5 at *
              refine pure_ (i := 0) (N := some 36) (v := ?_) (a' := ?_) #[true, false, false, false, false, false, false, false, false, false, false, false, false] rfl rfl (any_of HT_.out (by kernel_rfl)) (fun _ _ _ h => h) (Or.inl ⟨by rfl, ?_⟩) ?_ ?_
              rotate_left
              · intro w'
                go_simp
                with_reducible rfl
              rotate_left
              · simp only [Act.put, List.setIfInBounds_toArray, List.set_cons_zero, List.set_cons_succ, i64_w, i32_w, xu32_w, xu8_w]
                rfl
              refine pure_ (i := 1) (N := some 37) (v := ?_) (a' := ?_) #[true, true, false, false, false, false, false, false, false, false, false, false, false] rfl rfl (any_of HT_.out (by kernel_rfl)) (fun _ _ _ h => h) (Or.inl ⟨by rfl, ?_⟩) ?_ ?_
              rotate_left
              · intro w'
                go_simp
                with_reducible rfl
              rotate_left
              · simp only [Act.put, List.setIfInBounds_toArray, List.set_cons_zero, List.set_cons_succ, i64_w, i32_w, xu32_w, xu8_w]
                rfl
              refine pure_ (i := 2) (N := some 38) (v := ?_) (a' := ?_) #[true, true, true, false, false, false, false, false, false, false, false, false, false] rfl rfl (any_of HT_.out (by kernel_rfl)) (fun _ _ _ h => h) (Or.inl ⟨by rfl, ?_⟩) ?_ ?_
              rotate_left
              · intro w'
                go_simp
                with_reducible rfl
              rotate_left
              · simp only [Act.put, List.setIfInBounds_toArray, List.set_cons_zero, List.set_cons_succ, i64_w, i32_w, xu32_w, xu8_w]
                rfl
              refine pure_ (i := 4) (N := some 40) (v := ?_) (a' := ?_) #[true, true, true, false, true, false, false, false, false, false, false, false, false] rfl rfl (any_of HT_.out (by kernel_rfl)) (fun _ _ _ h => h) (Or.inl ⟨by rfl, ?_⟩) ?_ ?_
              rotate_left
              · intro w'
                go_simp
                with_reducible rfl
              rotate_left
              · simp only [Act.put, List.setIfInBounds_toArray, List.set_cons_zero, List.set_cons_succ, i64_w, i32_w, xu32_w, xu8_w]
                rfl
              refine pure_ (i := 5) (N := some 41) (v := ?_) (a' := ?_) #[true, true, true, false, true, true, false, false, false, false, false, false, false] rfl rfl (any_of HT_.out (by kernel_rfl)) (fun _ _ _ h => h) (Or.inl ⟨by rfl, ?_⟩) ?_ ?_
              rotate_left
              · intro w'
                go_simp
                with_reducible rfl
              rotate_left
              · simp only [Act.put, List.setIfInBounds_toArray, List.set_cons_zero, List.set_cons_succ, i64_w, i32_w, xu32_w, xu8_w]
                rfl
              refine pure_ (i := 6) (N := some 42) (v := ?_) (a' := ?_) #[true, true, true, false, true, true, true, false, false, false, false, false, false] rfl rfl (any_of HT_.out (by kernel_rfl)) (fun _ _ _ h => h) (Or.inl ⟨by rfl, ?_⟩) ?_ ?_
              rotate_left
              · intro w'
                go_simp
                with_reducible rfl
              rotate_left
              · simp only [Act.put, List.setIfInBounds_toArray, List.set_cons_zero, List.set_cons_succ, i64_w, i32_w, xu32_w, xu8_w]
                rfl
              refine pure_ (i := 7) (N := some 43) (v := ?_) (a' := ?_) #[true, true, true, false, true, true, true, true, false, false, false, false, false] rfl rfl (any_of HT_.out (by kernel_rfl)) (fun _ _ _ h => h) (Or.inl ⟨by rfl, ?_⟩) ?_ ?_
              rotate_left
              · intro w'
                go_simp
                with_reducible rfl
              rotate_left
              · simp only [Act.put, List.setIfInBounds_toArray, List.set_cons_zero, List.set_cons_succ, i64_w, i32_w, xu32_w, xu8_w]
                rfl
              refine take_ (i := 3) (N := some 39) (v := ?_) (a' := ?_) #[true, true, true, true, true, true, true, true, false, false, false, false, false] rfl rfl (take_ofW HT_.out HW_.out (by kernel_rfl)) (fun _ _ _ h => h) (Or.inl ⟨by rfl, ?_⟩) hHeld ?_ ?_
              rotate_left
              · rintro w' s0
                go_simp
                with_reducible rfl
              rotate_left
              · simp only [Act.put, List.setIfInBounds_toArray, List.set_cons_zero, List.set_cons_succ, i64_w, i32_w, xu32_w, xu8_w]
                rfl
              refine take_ (i := 8) (N := some 44) (v := ?_) (a' := ?_) #[true, true, true, true, true, true, true, true, true, false, false, false, false] rfl rfl (take_ofW HT_.out HW_.out (by kernel_rfl)) (fun _ _ _ h => h) (Or.inl ⟨by rfl, ?_⟩) hHeld ?_ ?_
              rotate_left
              · rintro w' s0
                go_simp
                with_reducible rfl
              rotate_left
              · simp only [Act.put, List.setIfInBounds_toArray, List.set_cons_zero, List.set_cons_succ, i64_w, i32_w, xu32_w, xu8_w]
                rfl
              refine one_ (i := 9) (N := some 45) #[true, true, true, true, true, true, true, true, true, true, false, false, false] rfl rfl (one_of HT_.out (by kernel_rfl)) (by decide) (fun K hK => ?_)
              refine goes_ Tryd.func59 (by kernel_rfl) rfl #[.pointer (some ⟨b, 0, none⟩), .int .i32 lo] (by rfl) rfl rfl (by (try simp only [List.map_toArray, List.map_cons, List.map_nil]); first | done | rfl) ?_
              with_reducible refine (up_ok H5.out HU.out).mono ?_
              rintro e w6 ⟨rfl, h6, hs⟩
              refine ⟨_, rfl, ?_⟩
              have H6 := Aside0.mk h6
              have HS6 := Aside0.mk (HS5.out.trans hs)
              have HXB6 := Aside0.mk ((hs.block X (blk_lt HXB5.out) HXb.out).trans HXB5.out)
              have HA6 := Aside0.mk (Kd.R_step HA5.out (fun q hq hlt => hs.block q hlt (by have h1 := HH.out.lt; have h2 := hq.1; omega)))
              have hg6 : w6.cell? ⟨g4, 0, none⟩ = some (.int .i32 lo) := cell_keep hHeld (hs.block g4 HG5.out HGB.out)
              clear h6 hs
              refine hK.out _ _ hg6 (fun hHeld => ?_)
              clear hK K
              refine norm_ (a' := ?_) ?_ ?_
              rotate_left
              · show Act.put _ (some 45) _ = _
                simp only [Act.put, List.setIfInBounds_toArray, List.set_cons_zero, List.set_cons_succ, i64_w, i32_w, xu32_w, xu8_w]
                rfl
              refine pure_ (i := 10) (N := some 46) (v := ?_) (a' := ?_) #[true, true, true, true, true, true, true, true, true, true, true, false, false] rfl rfl (any_of HT_.out (by kernel_rfl)) (fun _ _ _ h => h) (Or.inl ⟨by rfl, ?_⟩) ?_ ?_
              rotate_left
              · intro w'
                go_simp
                with_reducible rfl
              rotate_left
              · simp only [Act.put, List.setIfInBounds_toArray, List.set_cons_zero, List.set_cons_succ, i64_w, i32_w, xu32_w, xu8_w]
                rfl
              refine one_ (i := 11) (N := some 47) #[true, true, true, true, true, true, true, true, true, true, true, true, false] rfl rfl (one_of HT_.out (by kernel_rfl)) (by decide) (fun K hK => ?_)
              refine value_ (v := .slice (some ⟨w6.heap.size, 0, none⟩) 1 1) (w1 := w6.alloc (.cells #[.int .i32 lo, .int .i32 hi] 86)) (by rfl) rfl (by first | (go_simp; done) | (go_simp; rfl)) ?_
              refine hK.out _ _ (cell_keep hHeld (Below.heap_alloc w6 _ g4 (cell_lt hHeld))) (fun hHeld => ?_)
              clear hK K
              refine norm_ (a' := ?_) ?_ ?_
              rotate_left
              · show Act.put _ (some 47) _ = _
                simp only [Act.put, List.setIfInBounds_toArray, List.set_cons_zero, List.set_cons_succ, i64_w, i32_w, xu32_w, xu8_w]
                rfl
              refine pure_ (i := 12) (N := some 5) (v := ?_) (a' := ?_) #[true, true, true, true, true, true, true, true, true, true, true, true, true] rfl rfl (any_of HT_.out (by kernel_rfl)) (fun _ _ _ h => h) (Or.inl ⟨by rfl, ?_⟩) ?_ ?_
              rotate_left
              · intro w'
                go_simp
                with_reducible rfl
              rotate_left
              · simp only [Act.put, List.setIfInBounds_toArray, List.set_cons_zero, List.set_cons_succ, i64_w, i32_w, xu32_w, xu8_w]
                rfl
              refine done_ (done_of HT_.out (by kernel_rfl)) ?_
              have HW7 := Aside0.mk (rfl : w6.alloc (.cells #[.int .i32 lo, .int .i32 hi] 86) = w6.alloc (.cells #[.int .i32 lo, .int .i32 hi] 86))
              have H7 := Aside0.mk (H6.out.below (below_alloc (Below.refl _ _) (.cells #[.int .i32 lo, .int .i32 hi] 86)))
              have HS7 := Aside0.mk (HS6.out.trans (Stp.of (below_alloc (Below.refl _ _) (.cells #[.int .i32 lo, .int .i32 hi] 86))))
              have HXB7 := Aside0.mk (blk_alloc HXB6.out (.cells #[.int .i32 lo, .int .i32 hi] 86))
              have HA7 := Aside0.mk (Kd.R_alloc HA6.out (.cells #[.int .i32 lo, .int .i32 hi] 86))
              have HSP7 := Aside0.mk (Spn.mk1' (w := w6) (lo := lo) (hi := hi) (Nat.le_refl _) (blk_new w6 (.cells #[.int .i32 lo, .int .i32 hi] 86)))
              have HW6 := Aside0.mk (show w6.heap.size ≤ (w6.alloc (.cells #[.int .i32 lo, .int .i32 hi] 86)).heap.size from by simp)
              generalize w6.alloc (.cells #[.int .i32 lo, .int .i32 hi] 86) = w7 at *
              clear HW7
              obtain ⟨x0, x1, x2, x3, x4, x5⟩ := nd_cell HXB7.out
              have xf := nd_frozen HXB7.out 1
              go_wp2_with (((with_reducible refine gate_builtin (b := .append) (xs := #[.tmp 52, .tmp 53]) rfl ?_); at_builtin; refine Kd.R_append_rows k86 (w0 := w7) w.heap.size rfl (.tmp 52) (.tmp 53) 71 86 (.agg #[.int .i32 0, .int .i32 0]) 8 rfl Tryd.underlying71 info86 rfl (by decide) (by omega) (.slice A acc.length cc) acc [⟨lo, hi⟩] (some ⟨w6.heap.size, 0, none⟩) 1 1 (fun q => w.heap.size ≤ q ∧ q ≠ X) (fun _ => False) rfl rfl HA7.out (Spn.rows HSP7.out).1 (fun x cs hK => by rw [k86_open hK]; exact k86_mkM _ _ _ _) (fun _ hq => hq.elim) (fun q hq => ⟨by have h1 := HS7.out.size; omega, fun e => by have h1 := blk_lt HXB7.out; omega⟩) (Below.refl _ _) HS7.out.size ?aL ?_; (case aL => have h1 := HB.out; have h2 := HLL.out; have h3 := HR.out.short; have h4 := HR.out.le; have h5 := HU2.out; omega); intro v5 w5 ho hb5 hg5 hat5; obtain ⟨A5, c5, rfl⟩ := Kd.R_slice ho; have HO := Aside0.mk ho; have HXB5 := Aside0.mk ((hg5.block X (blk_lt HXB7.out) (fun e => (HA7.out.1 X e.symm).2 rfl)).trans HXB7.out); have HB5 := Aside0.mk hb5; clear ho hb5 hg5 hat5 x0 x1 x2 x3 x4 x5 xf; obtain ⟨x0, x1, x2, x3, x4, x5⟩ := nd_cell HXB5.out; have xf := nd_frozen HXB5.out 1))
              go_roundg k1
              case measure => omega
              case rel => exact ⟨j2, false, _, A5, c5, rfl, ⟨HN.out⟩, ⟨Rd.far (Rd.grown H7.out (fun q hq hq2 => HB5.out.block q (by have h1 := HH.out.lt; have h2 := HH.out.two; omega))) HXb.out (by have h1 := HH.out.lt; have h2 := HX.out; have h3 := HH.out.two; omega) _ _⟩, ⟨(HS7.out.grown HB5.out (Nat.le_refl _)).far (by rw [HX.out]; exact Nat.le_refl _) _ _⟩, ⟨blk_put HXB5.out 1 _ (by (try simp only [List.length_append, List.length_cons, List.length_nil]); rfl)⟩, ⟨Kd.R_far HO.out (fun q hq => hq.2) _⟩, ⟨by rw [List.length_append]; have h1 := HB.out; have h2 := HLL.out; have h3 := HU2.out; simp only [List.length_singleton]; omega, by have h1 := HB.out; have h2 := HLL.out; have h3 := HU2.out; omega⟩⟩
          · have HP1 := Aside0.mk hp1
            clear hp1
            rcases hB with ⟨a1, e1, hm, rfl⟩ | ⟨l, j, hm, hN⟩ | ⟨l, j, hm, hp2, rfl⟩ | ⟨l, j, c2, hm, hp2, h45, hN⟩ | ⟨l, j, a1, e1, hm, hp2, hu, rfl⟩ | ⟨l, j, hi, j2, hm, hp2, hu, hN⟩
            · have HM := Aside0.mk hm
              clear hm
              go_wp2_with (first
                | (go_at_call 36; (with_reducible refine (peek_ok HR.out HP1.out).mono ?_); rintro e w1 ⟨rfl, hb⟩; have H1 := Aside0.mk (HR.out.below hb); have HS1 := Aside0.mk (HS.out.trans (Stp.of hb)); have HXB1 := Aside0.mk ((hb.block X (blk_lt HXB.out)).trans HXB.out); have HA1 := Aside0.mk (Kd.R_below HA.out hb); clear hb)
                | (go_at_call 58; (with_reducible refine (mem_bad H1.out HM.out).mono ?_); rintro e w2 ⟨rfl, hs⟩; have HS2 := Aside0.mk (HS1.out.trans hs); clear hs))
              exact ⟨rfl, rfl, HS2.out⟩
            · have HM := Aside0.mk hm
              have HLL := Aside0.mk (mem_len hm)
              clear hm
              have HN := Aside0.mk hN
              clear hN
              go_wp2_with (first
                | (go_at_call 36; (with_reducible refine (peek_ok HR.out HP1.out).mono ?_); rintro e w1 ⟨rfl, hb⟩; have H1 := Aside0.mk (HR.out.below hb); have HS1 := Aside0.mk (HS.out.trans (Stp.of hb)); have HXB1 := Aside0.mk ((hb.block X (blk_lt HXB.out)).trans HXB.out); have HA1 := Aside0.mk (Kd.R_below HA.out hb); clear hb)
                | (go_at_call 58; (with_reducible refine (mem_ok H1.out HM.out).mono ?_); rintro e w2 ⟨v, rfl, h2, hs, hSp⟩; obtain ⟨g4, c4, rfl, _⟩ := id hSp; have H2 := Aside0.mk h2; have HSP := Aside0.mk hSp; have HS2 := Aside0.mk (HS1.out.trans hs); have HXB2 := Aside0.mk ((hs.block X (blk_lt HXB1.out) HXb.out).trans HXB1.out); have HA2 := Aside0.mk (Kd.R_step HA1.out (fun q hq hlt => hs.block q hlt (by have h1 := HH.out.lt; have h2 := hq.1; omega))); clear h2 hs hSp; obtain ⟨x0, x1, x2, x3, x4, x5⟩ := nd_cell HXB2.out; have xf := nd_frozen HXB2.out 1; have HBW := Aside0.mk H1.out.lt)
                | ((with_reducible refine gate_builtin (b := .append) (xs := #[.tmp 52, .tmp 53]) rfl ?_); at_builtin; refine Kd.R_append_rows k86 (w0 := w2) w.heap.size rfl (.tmp 52) (.tmp 53) 71 86 (.agg #[.int .i32 0, .int .i32 0]) 8 rfl Tryd.underlying71 info86 rfl (by decide) (by omega) (.slice A acc.length cc) acc l (some ⟨g4, 0, none⟩) l.length c4 (fun q => w.heap.size ≤ q ∧ q ≠ X) (fun _ => False) rfl rfl HA2.out (Spn.rows HSP.out).1 (fun x cs hK => by rw [k86_open hK]; exact k86_mkM _ _ _ _) (fun _ hq => hq.elim) (fun q hq => ⟨Nat.le_trans HS2.out.size hq, fun e => by have := blk_lt HXB2.out; omega⟩) (Below.refl _ _) HS2.out.size ?aL ?_; (case aL => have h1 := HB.out; have h2 := HLL.out; have h3 := HR.out.short; have h4 := HR.out.le; omega); intro v5 w5 ho hb5 hg5 hat5; obtain ⟨A5, c5, rfl⟩ := Kd.R_slice ho; have HO := Aside0.mk ho; have HXB5 := Aside0.mk ((hg5.block X (blk_lt HXB2.out) (fun e => (HA2.out.1 X e.symm).2 rfl)).trans HXB2.out); have HB5 := Aside0.mk hb5; clear ho hb5 hg5 hat5 x0 x1 x2 x3 x4 x5 xf; obtain ⟨x0, x1, x2, x3, x4, x5⟩ := nd_cell HXB5.out; have xf := nd_frozen HXB5.out 1))
              go_roundg k1
              case measure => omega
              case rel => exact ⟨j, false, _, A5, c5, rfl, ⟨HN.out⟩, ⟨Rd.far (Rd.grown H2.out (fun q hq hq2 => HB5.out.block q (by have h1 := HH.out.lt; have h2 := HH.out.two; omega))) HXb.out (by have h1 := HH.out.lt; have h2 := HX.out; have h3 := HH.out.two; omega) _ _⟩, ⟨(HS2.out.grown HB5.out (Nat.le_refl _)).far (by rw [HX.out]; exact Nat.le_refl _) _ _⟩, ⟨blk_put HXB5.out 1 _ (by (try simp only [List.length_append, List.length_cons, List.length_nil]); rfl)⟩, ⟨Kd.R_far HO.out (fun q hq => hq.2) _⟩, ⟨by rw [List.length_append]; have h1 := HB.out; have h2 := HLL.out; omega, by have h1 := HB.out; have h2 := HLL.out; omega⟩⟩
            · have HM := Aside0.mk hm
              have HLL := Aside0.mk (mem_len hm)
              clear hm
              have HP2 := Aside0.mk hp2
              clear hp2
              go_wp2_with (first
                | (go_at_call 36; (with_reducible refine (peek_ok HR.out HP1.out).mono ?_); rintro e w1 ⟨rfl, hb⟩; have H1 := Aside0.mk (HR.out.below hb); have HS1 := Aside0.mk (HS.out.trans (Stp.of hb)); have HXB1 := Aside0.mk ((hb.block X (blk_lt HXB.out)).trans HXB.out); have HA1 := Aside0.mk (Kd.R_below HA.out hb); clear hb)
                | (go_at_call 58; (with_reducible refine (mem_ok H1.out HM.out).mono ?_); rintro e w2 ⟨v, rfl, h2, hs, hSp⟩; obtain ⟨g4, c4, rfl, _⟩ := id hSp; have H2 := Aside0.mk h2; have HSP := Aside0.mk hSp; have HS2 := Aside0.mk (HS1.out.trans hs); have HXB2 := Aside0.mk ((hs.block X (blk_lt HXB1.out) HXb.out).trans HXB1.out); have HA2 := Aside0.mk (Kd.R_step HA1.out (fun q hq hlt => hs.block q hlt (by have h1 := HH.out.lt; have h2 := hq.1; omega))); clear h2 hs hSp; obtain ⟨x0, x1, x2, x3, x4, x5⟩ := nd_cell HXB2.out; have xf := nd_frozen HXB2.out 1; have HBW := Aside0.mk H1.out.lt)
                | (go_at_call 36; (with_reducible refine (peek_no H2.out HP2.out).mono ?_); rintro e w3 ⟨rfl, hb⟩; have HS3 := Aside0.mk (HS2.out.trans (Stp.of hb)); clear hb))
              exact ⟨rfl, rfl, HS3.out⟩
            · have HM := Aside0.mk hm
              have HLL := Aside0.mk (mem_len hm)
              clear hm
              have HP2 := Aside0.mk hp2
              have HN := Aside0.mk hN
              clear hp2 hN
              go_wp2_with (first
                | (go_at_call 36; (with_reducible refine (peek_ok HR.out HP1.out).mono ?_); rintro e w1 ⟨rfl, hb⟩; have H1 := Aside0.mk (HR.out.below hb); have HS1 := Aside0.mk (HS.out.trans (Stp.of hb)); have HXB1 := Aside0.mk ((hb.block X (blk_lt HXB.out)).trans HXB.out); have HA1 := Aside0.mk (Kd.R_below HA.out hb); clear hb)
                | (go_at_call 58; (with_reducible refine (mem_ok H1.out HM.out).mono ?_); rintro e w2 ⟨v, rfl, h2, hs, hSp⟩; obtain ⟨g4, c4, rfl, _⟩ := id hSp; have H2 := Aside0.mk h2; have HSP := Aside0.mk hSp; have HS2 := Aside0.mk (HS1.out.trans hs); have HXB2 := Aside0.mk ((hs.block X (blk_lt HXB1.out) HXb.out).trans HXB1.out); have HA2 := Aside0.mk (Kd.R_step HA1.out (fun q hq hlt => hs.block q hlt (by have h1 := HH.out.lt; have h2 := hq.1; omega))); clear h2 hs hSp; obtain ⟨x0, x1, x2, x3, x4, x5⟩ := nd_cell HXB2.out; have xf := nd_frozen HXB2.out 1; have HBW := Aside0.mk H1.out.lt)
                | (go_at_call 36; (with_reducible refine (peek_ok H2.out HP2.out).mono ?_); rintro e w3 ⟨rfl, hb⟩; have H3 := Aside0.mk (H2.out.below hb); have HS3 := Aside0.mk (HS2.out.trans (Stp.of hb)); have HXB3 := Aside0.mk ((hb.block X (blk_lt HXB2.out)).trans HXB2.out); have HA3 := Aside0.mk (Kd.R_below HA2.out hb); have HSP3 := Aside0.mk (HSP.out.stp (Stp.of (b := b) hb) HBW.out); clear hb x0 x1 x2 x3 x4 x5 xf; obtain ⟨x0, x1, x2, x3, x4, x5⟩ := nd_cell HXB3.out; have xf := nd_frozen HXB3.out 1)
                | ((with_reducible refine gate_builtin (b := .append) (xs := #[.tmp 52, .tmp 53]) rfl ?_); at_builtin; refine Kd.R_append_rows k86 (w0 := w3) w.heap.size rfl (.tmp 52) (.tmp 53) 71 86 (.agg #[.int .i32 0, .int .i32 0]) 8 rfl Tryd.underlying71 info86 rfl (by decide) (by omega) (.slice A acc.length cc) acc l (some ⟨g4, 0, none⟩) l.length c4 (fun q => w.heap.size ≤ q ∧ q ≠ X) (fun _ => False) rfl rfl HA3.out (Spn.rows HSP3.out).1 (fun x cs hK => by rw [k86_open hK]; exact k86_mkM _ _ _ _) (fun _ hq => hq.elim) (fun q hq => ⟨Nat.le_trans HS3.out.size hq, fun e => by have := blk_lt HXB3.out; omega⟩) (Below.refl _ _) HS3.out.size ?aL ?_; (case aL => have h1 := HB.out; have h2 := HLL.out; have h3 := HR.out.short; have h4 := HR.out.le; omega); intro v5 w5 ho hb5 hg5 hat5; obtain ⟨A5, c5, rfl⟩ := Kd.R_slice ho; have HO := Aside0.mk ho; have HXB5 := Aside0.mk ((hg5.block X (blk_lt HXB3.out) (fun e => (HA3.out.1 X e.symm).2 rfl)).trans HXB3.out); have HB5 := Aside0.mk hb5; clear ho hb5 hg5 hat5 x0 x1 x2 x3 x4 x5 xf; obtain ⟨x0, x1, x2, x3, x4, x5⟩ := nd_cell HXB5.out; have xf := nd_frozen HXB5.out 1))
              go_roundg k1
              case measure => omega
              case rel => exact ⟨j, false, _, A5, c5, rfl, ⟨HN.out⟩, ⟨Rd.far (Rd.grown H3.out (fun q hq hq2 => HB5.out.block q (by have h1 := HH.out.lt; have h2 := HH.out.two; omega))) HXb.out (by have h1 := HH.out.lt; have h2 := HX.out; have h3 := HH.out.two; omega) _ _⟩, ⟨(HS3.out.grown HB5.out (Nat.le_refl _)).far (by rw [HX.out]; exact Nat.le_refl _) _ _⟩, ⟨blk_put HXB5.out 1 _ (by (try simp only [List.length_append, List.length_cons, List.length_nil]); rfl)⟩, ⟨Kd.R_far HO.out (fun q hq => hq.2) _⟩, ⟨by rw [List.length_append]; have h1 := HB.out; have h2 := HLL.out; omega, by have h1 := HB.out; have h2 := HLL.out; omega⟩⟩
            · have HM := Aside0.mk hm
              have HLL := Aside0.mk (mem_len hm)
              clear hm
              have HP2 := Aside0.mk hp2
              have HNE := Aside0.mk (mem_ne HM.out)
              have HC3 := Aside0.mk (show j + rl 45 ≤ s.size from ((peek_rune (by have h1 := HR.out.le; first | exact mem_le HR.out.le HM.out) hp2).resolve_left (by decide)).2)
              generalize hlo : (l.getD 0 z86).f0 = lo at *
              have HLO := Aside0.mk hlo
              have HU := Aside0.mk hu
              clear hp2 hu hlo
              go_wp2_with (first
                | (go_at_call 36; (with_reducible refine (peek_ok HR.out HP1.out).mono ?_); rintro e w1 ⟨rfl, hb⟩; have H1 := Aside0.mk (HR.out.below hb); have HS1 := Aside0.mk (HS.out.trans (Stp.of hb)); have HXB1 := Aside0.mk ((hb.block X (blk_lt HXB.out)).trans HXB.out); have HA1 := Aside0.mk (Kd.R_below HA.out hb); clear hb)
                | (go_at_call 58; (with_reducible refine (mem_ok H1.out HM.out).mono ?_); rintro e w2 ⟨v, rfl, h2, hs, hSp⟩; obtain ⟨g4, c4, rfl, _⟩ := id hSp; have H2 := Aside0.mk h2; have HSP := Aside0.mk hSp; have HS2 := Aside0.mk (HS1.out.trans hs); have HXB2 := Aside0.mk ((hs.block X (blk_lt HXB1.out) HXb.out).trans HXB1.out); have HA2 := Aside0.mk (Kd.R_step HA1.out (fun q hq hlt => hs.block q hlt (by have h1 := HH.out.lt; have h2 := hq.1; omega))); clear h2 hs hSp; obtain ⟨x0, x1, x2, x3, x4, x5⟩ := nd_cell HXB2.out; have xf := nd_frozen HXB2.out 1; have HBW := Aside0.mk H1.out.lt)
                | (go_at_call 36; (with_reducible refine (peek_ok H2.out HP2.out).mono ?_); rintro e w3 ⟨rfl, hb⟩; have H3 := Aside0.mk (H2.out.below hb); have HS3 := Aside0.mk (HS2.out.trans (Stp.of hb)); have HXB3 := Aside0.mk ((hb.block X (blk_lt HXB2.out)).trans HXB2.out); have HA3 := Aside0.mk (Kd.R_below HA2.out hb); have HSP3 := Aside0.mk (HSP.out.stp (Stp.of (b := b) hb) HBW.out); clear hb x0 x1 x2 x3 x4 x5 xf; obtain ⟨x0, x1, x2, x3, x4, x5⟩ := nd_cell HXB3.out; have xf := nd_frozen HXB3.out 1)
                | (go_at_call 37; (with_reducible refine (skip_calls H3.out rune45 HC3.out).mono ?_); rintro e w4 ⟨rfl, h4, hs⟩; have H4 := Aside0.mk h4; have HS4 := Aside0.mk (HS3.out.trans hs); have HXB4 := Aside0.mk ((hs.block X (blk_lt HXB3.out) HXb.out).trans HXB3.out); have HA4 := Aside0.mk (Kd.R_step HA3.out (fun q hq hlt => hs.block q hlt (by have h1 := HH.out.lt; have h2 := hq.1; omega))); have HSP4 := Aside0.mk (HSP3.out.stp hs HBW.out); clear h4 hs x0 x1 x2 x3 x4 x5 xf))
              have HGB := Aside0.mk (show g4 ≠ b from fun e => by have h1 := (Spn.addr HSP.out).1; have h2 := HBW.out; omega)
              have y0 := (Spn.at0 HSP4.out HNE.out).1
              rw [HLO.out] at y0
              have yl : 0 < l.length := List.length_pos_iff.2 HNE.out
              refine start_ (n := 13) (S := fun w' => w'.cell? ⟨g4, 0, none⟩ = some (.int .i32 lo)) (ds := []) #[false, false, false, false, false, false, false, false, false, false, false, false, false] (by kernel_rfl) rfl rfl (show w4.drew.cell? ⟨g4, 0, none⟩ = some (.int .i32 lo) from y0) (fun hHeld => ?_); refine with_tabW cls.tab11 cls.bits11 (fun HT_ HW_ => ?_)
              have H5 := Aside0.mk (H4.out.below (below_drew1 (Below.refl _ _)))
              have HS5 := Aside0.mk (HS4.out.trans (Stp.of (below_drew1 (Below.refl _ _))))
              have HXB5 := Aside0.mk (((below_drew1 (Below.refl w4.heap.size w4)).block X (blk_lt HXB4.out)).trans HXB4.out)
              have HA5 := Aside0.mk (Kd.R_below HA4.out (below_drew1 (Below.refl _ _)))
              have HG5 := Aside0.mk (show g4 < w4.drew.heap.size from Nat.lt_of_lt_of_le (Spn.addr HSP4.out).2 (below_drew1 (Below.refl w4.heap.size w4)).size)
              generalize w4.drew = W5 at *
              refine pure_ (i := 0) (N := some 36) (v := ?_) (a' := ?_) #[true, false, false, false, false, false, false, false, false, false, false, false, false] rfl rfl (any_of HT_.out (by kernel_rfl)) (fun _ _ _ h => h) (Or.inl ⟨by rfl, ?_⟩) ?_ ?_
              rotate_left
              · intro w'
                go_simp
                with_reducible rfl
              rotate_left
              · simp only [Act.put, List.setIfInBounds_toArray, List.set_cons_zero, List.set_cons_succ, i64_w, i32_w, xu32_w, xu8_w]
                rfl
              refine pure_ (i := 1) (N := some 37) (v := ?_) (a' := ?_) #[true, true, false, false, false, false, false, false, false, false, false, false, false] rfl rfl (any_of HT_.out (by kernel_rfl)) (fun _ _ _ h => h) (Or.inl ⟨by rfl, ?_⟩) ?_ ?_
              rotate_left
              · intro w'
                go_simp
                with_reducible rfl
              rotate_left
              · simp only [Act.put, List.setIfInBounds_toArray, List.set_cons_zero, List.set_cons_succ, i64_w, i32_w, xu32_w, xu8_w]
                rfl
              refine pure_ (i := 2) (N := some 38) (v := ?_) (a' := ?_) #[true, true, true, false, false, false, false, false, false, false, false, false, false] rfl rfl (any_of HT_.out (by kernel_rfl)) (fun _ _ _ h => h) (Or.inl ⟨by rfl, ?_⟩) ?_ ?_
              rotate_left
              · intro w'
                go_simp
                with_reducible rfl
              rotate_left
              · simp only [Act.put, List.setIfInBounds_toArray, List.set_cons_zero, List.set_cons_succ, i64_w, i32_w, xu32_w, xu8_w]
                rfl
              refine pure_ (i := 4) (N := some 40) (v := ?_) (a' := ?_) #[true, true, true, false, true, false, false, false, false, false, false, false, false] rfl rfl (any_of HT_.out (by kernel_rfl)) (fun _ _ _ h => h) (Or.inl ⟨by rfl, ?_⟩) ?_ ?_
              rotate_left
              · intro w'
                go_simp
                with_reducible rfl
              rotate_left
              · simp only [Act.put, List.setIfInBounds_toArray, List.set_cons_zero, List.set_cons_succ, i64_w, i32_w, xu32_w, xu8_w]
                rfl
              refine pure_ (i := 5) (N := some 41) (v := ?_) (a' := ?_) #[true, true, true, false, true, true, false, false, false, false, false, false, false] rfl rfl (any_of HT_.out (by kernel_rfl)) (fun _ _ _ h => h) (Or.inl ⟨by rfl, ?_⟩) ?_ ?_
              rotate_left
              · intro w'
                go_simp
                with_reducible rfl
              rotate_left
              · simp only [Act.put, List.setIfInBounds_toArray, List.set_cons_zero, List.set_cons_succ, i64_w, i32_w, xu32_w, xu8_w]
                rfl
              refine pure_ (i := 6) (N := some 42) (v := ?_) (a' := ?_) #[true, true, true, false, true, true, true, false, false, false, false, false, false] rfl rfl (any_of HT_.out (by kernel_rfl)) (fun _ _ _ h => h) (Or.inl ⟨by rfl, ?_⟩) ?_ ?_
              rotate_left
              · intro w'
                go_simp
                with_reducible rfl
              rotate_left
              · simp only [Act.put, List.setIfInBounds_toArray, List.set_cons_zero, List.set_cons_succ, i64_w, i32_w, xu32_w, xu8_w]
                rfl
              refine pure_ (i := 7) (N := some 43) (v := ?_) (a' := ?_) #[true, true, true, false, true, true, true, true, false, false, false, false, false] rfl rfl (any_of HT_.out (by kernel_rfl)) (fun _ _ _ h => h) (Or.inl ⟨by rfl, ?_⟩) ?_ ?_
              rotate_left
              · intro w'
                go_simp
                with_reducible rfl
              rotate_left
              · simp only [Act.put, List.setIfInBounds_toArray, List.set_cons_zero, List.set_cons_succ, i64_w, i32_w, xu32_w, xu8_w]
                rfl
              refine take_ (i := 3) (N := some 39) (v := ?_) (a' := ?_) #[true, true, true, true, true, true, true, true, false, false, false, false, false] rfl rfl (take_ofW HT_.out HW_.out (by kernel_rfl)) (fun _ _ _ h => h) (Or.inl ⟨by rfl, ?_⟩) hHeld ?_ ?_
              rotate_left
              · rintro w' s0
                go_simp
                with_reducible rfl
              rotate_left
              · simp only [Act.put, List.setIfInBounds_toArray, List.set_cons_zero, List.set_cons_succ, i64_w, i32_w, xu32_w, xu8_w]
                rfl
              refine take_ (i := 8) (N := some 44) (v := ?_) (a' := ?_) #[true, true, true, true, true, true, true, true, true, false, false, false, false] rfl rfl (take_ofW HT_.out HW_.out (by kernel_rfl)) (fun _ _ _ h => h) (Or.inl ⟨by rfl, ?_⟩) hHeld ?_ ?_
              rotate_left
              · rintro w' s0
                go_simp
                with_reducible rfl
              rotate_left
              · simp only [Act.put, List.setIfInBounds_toArray, List.set_cons_zero, List.set_cons_succ, i64_w, i32_w, xu32_w, xu8_w]
                rfl
              refine one_ (i := 9) (N := some 45) #[true, true, true, true, true, true, true, true, true, true, false, false, false] rfl rfl (one_of HT_.out (by kernel_rfl)) (by decide) (fun K hK => ?_)
              refine goesP_ Tryd.func59 (by kernel_rfl) rfl #[.pointer (some ⟨b, 0, none⟩), .int .i32 lo] (by rfl) rfl rfl (by (try simp only [List.map_toArray, List.map_cons, List.map_nil]); first | done | rfl) ?_
              with_reducible refine (up_bad H5.out HU.out).mono ?_
              rintro e w6 ⟨rfl, hs⟩
              exact ⟨_, rfl, rfl, rfl, HS5.out.trans hs⟩
            · have HM := Aside0.mk hm
              have HLL := Aside0.mk (mem_len hm)
              clear hm
              have HP2 := Aside0.mk hp2
              have HNE := Aside0.mk (mem_ne HM.out)
              have HC3 := Aside0.mk (show j + rl 45 ≤ s.size from ((peek_rune (by have h1 := HR.out.le; first | exact mem_le HR.out.le HM.out) hp2).resolve_left (by decide)).2)
              generalize hlo : (l.getD 0 z86).f0 = lo at *
              have HLO := Aside0.mk hlo
              have HU := Aside0.mk hu
              clear hp2 hu hlo
              have HN := Aside0.mk hN
              have HU2 := Aside0.mk (up_len HU.out)
              clear hN
              go_wp2_with (first
                | (go_at_call 36; (with_reducible refine (peek_ok HR.out HP1.out).mono ?_); rintro e w1 ⟨rfl, hb⟩; have H1 := Aside0.mk (HR.out.below hb); have HS1 := Aside0.mk (HS.out.trans (Stp.of hb)); have HXB1 := Aside0.mk ((hb.block X (blk_lt HXB.out)).trans HXB.out); have HA1 := Aside0.mk (Kd.R_below HA.out hb); clear hb)
                | (go_at_call 58; (with_reducible refine (mem_ok H1.out HM.out).mono ?_); rintro e w2 ⟨v, rfl, h2, hs, hSp⟩; obtain ⟨g4, c4, rfl, _⟩ := id hSp; have H2 := Aside0.mk h2; have HSP := Aside0.mk hSp; have HS2 := Aside0.mk (HS1.out.trans hs); have HXB2 := Aside0.mk ((hs.block X (blk_lt HXB1.out) HXb.out).trans HXB1.out); have HA2 := Aside0.mk (Kd.R_step HA1.out (fun q hq hlt => hs.block q hlt (by have h1 := HH.out.lt; have h2 := hq.1; omega))); clear h2 hs hSp; obtain ⟨x0, x1, x2, x3, x4, x5⟩ := nd_cell HXB2.out; have xf := nd_frozen HXB2.out 1; have HBW := Aside0.mk H1.out.lt)
                | (go_at_call 36; (with_reducible refine (peek_ok H2.out HP2.out).mono ?_); rintro e w3 ⟨rfl, hb⟩; have H3 := Aside0.mk (H2.out.below hb); have HS3 := Aside0.mk (HS2.out.trans (Stp.of hb)); have HXB3 := Aside0.mk ((hb.block X (blk_lt HXB2.out)).trans HXB2.out); have HA3 := Aside0.mk (Kd.R_below HA2.out hb); have HSP3 := Aside0.mk (HSP.out.stp (Stp.of (b := b) hb) HBW.out); clear hb x0 x1 x2 x3 x4 x5 xf; obtain ⟨x0, x1, x2, x3, x4, x5⟩ := nd_cell HXB3.out; have xf := nd_frozen HXB3.out 1)
                | (go_at_call 37; (with_reducible refine (skip_calls H3.out rune45 HC3.out).mono ?_); rintro e w4 ⟨rfl, h4, hs⟩; have H4 := Aside0.mk h4; have HS4 := Aside0.mk (HS3.out.trans hs); have HXB4 := Aside0.mk ((hs.block X (blk_lt HXB3.out) HXb.out).trans HXB3.out); have HA4 := Aside0.mk (Kd.R_step HA3.out (fun q hq hlt => hs.block q hlt (by have h1 := HH.out.lt; have h2 := hq.1; omega))); have HSP4 := Aside0.mk (HSP3.out.stp hs HBW.out); clear h4 hs x0 x1 x2 x3 x4 x5 xf))
              have HGB := Aside0.mk (show g4 ≠ b from fun e => by have h1 := (Spn.addr HSP.out).1; have h2 := HBW.out; omega)
              have y0 := (Spn.at0 HSP4.out HNE.out).1
              rw [HLO.out] at y0
              have yl : 0 < l.length := List.length_pos_iff.2 HNE.out
              refine start_ (n := 13) (S := fun w' => w'.cell? ⟨g4, 0, none⟩ = some (.int .i32 lo)) (ds := []) #[false, false, false, false, false, false, false, false, false, false, false, false, false] (by kernel_rfl) rfl rfl (show w4.drew.cell? ⟨g4, 0, none⟩ = some (.int .i32 lo) from y0) (fun hHeld => ?_); refine with_tabW cls.tab11 cls.bits11 (fun HT_ HW_ => ?_)
              have H5 := Aside0.mk (H4.out.below (below_drew1 (Below.refl _ _)))
              have HS5 := Aside0.mk (HS4.out.trans (Stp.of (below_drew1 (Below.refl _ _))))
              have HXB5 := Aside0.mk (((below_drew1 (Below.refl w4.heap.size w4)).block X (blk_lt HXB4.out)).trans HXB4.out)
              have HA5 := Aside0.mk (Kd.R_below HA4.out (below_drew1 (Below.refl _ _)))
              have HG5 := Aside0.mk (show g4 < w4.drew.heap.size from Nat.lt_of_lt_of_le (Spn.addr HSP4.out).2 (below_drew1 (Below.refl w4.heap.size w4)).size)
              generalize w4.drew = W5 at *
              refine pure_ (i := 0) (N := some 36) (v := ?_) (a' := ?_) #[true, false, false, false, false, false, false, false, false, false, false, false, false] rfl rfl (any_of HT_.out (by kernel_rfl)) (fun _ _ _ h => h) (Or.inl ⟨by rfl, ?_⟩) ?_ ?_
              rotate_left
              · intro w'
                go_simp
                with_reducible rfl
              rotate_left
              · simp only [Act.put, List.setIfInBounds_toArray, List.set_cons_zero, List.set_cons_succ, i64_w, i32_w, xu32_w, xu8_w]
                rfl
              refine pure_ (i := 1) (N := some 37) (v := ?_) (a' := ?_) #[true, true, false, false, false, false, false, false, false, false, false, false, false] rfl rfl (any_of HT_.out (by kernel_rfl)) (fun _ _ _ h => h) (Or.inl ⟨by rfl, ?_⟩) ?_ ?_
              rotate_left
              · intro w'
                go_simp
                with_reducible rfl
              rotate_left
              · simp only [Act.put, List.setIfInBounds_toArray, List.set_cons_zero, List.set_cons_succ, i64_w, i32_w, xu32_w, xu8_w]
                rfl
              refine pure_ (i := 2) (N := some 38) (v := ?_) (a' := ?_) #[true, true, true, false, false, false, false, false, false, false, false, false, false] rfl rfl (any_of HT_.out (by kernel_rfl)) (fun _ _ _ h => h) (Or.inl ⟨by rfl, ?_⟩) ?_ ?_
              rotate_left
              · intro w'
                go_simp
                with_reducible rfl
              rotate_left
              · simp only [Act.put, List.setIfInBounds_toArray, List.set_cons_zero, List.set_cons_succ, i64_w, i32_w, xu32_w, xu8_w]
                rfl
              refine pure_ (i := 4) (N := some 40) (v := ?_) (a' := ?_) #[true, true, true, false, true, false, false, false, false, false, false, false, false] rfl rfl (any_of HT_.out (by kernel_rfl)) (fun _ _ _ h => h) (Or.inl ⟨by rfl, ?_⟩) ?_ ?_
              rotate_left
              · intro w'
                go_simp
                with_reducible rfl
              rotate_left
              · simp only [Act.put, List.setIfInBounds_toArray, List.set_cons_zero, List.set_cons_succ, i64_w, i32_w, xu32_w, xu8_w]
                rfl
              refine pure_ (i := 5) (N := some 41) (v := ?_) (a' := ?_) #[true, true, true, false, true, true, false, false, false, false, false, false, false] rfl rfl (any_of HT_.out (by kernel_rfl)) (fun _ _ _ h => h) (Or.inl ⟨by rfl, ?_⟩) ?_ ?_
              rotate_left
              · intro w'
                go_simp
                with_reducible rfl
              rotate_left
              · simp only [Act.put, List.setIfInBounds_toArray, List.set_cons_zero, List.set_cons_succ, i64_w, i32_w, xu32_w, xu8_w]
                rfl
              refine pure_ (i := 6) (N := some 42) (v := ?_) (a' := ?_) #[true, true, true, false, true, true, true, false, false, false, false, false, false] rfl rfl (any_of HT_.out (by kernel_rfl)) (fun _ _ _ h => h) (Or.inl ⟨by rfl, ?_⟩) ?_ ?_
              rotate_left
              · intro w'
                go_simp
                with_reducible rfl
              rotate_left
              · simp only [Act.put, List.setIfInBounds_toArray, List.set_cons_zero, List.set_cons_succ, i64_w, i32_w, xu32_w, xu8_w]
                rfl
              refine pure_ (i := 7) (N := some 43) (v := ?_) (a' := ?_) #[true, true, true, false, true, true, true, true, false, false, false, false, false] rfl rfl (any_of HT_.out (by kernel_rfl)) (fun _ _ _ h => h) (Or.inl ⟨by rfl, ?_⟩) ?_ ?_
              rotate_left
              · intro w'
                go_simp
                with_reducible rfl
              rotate_left
              · simp only [Act.put, List.setIfInBounds_toArray, List.set_cons_zero, List.set_cons_succ, i64_w, i32_w, xu32_w, xu8_w]
                rfl
              refine take_ (i := 3) (N := some 39) (v := ?_) (a' := ?_) #[true, true, true, true, true, true, true, true, false, false, false, false, false] rfl rfl (take_ofW HT_.out HW_.out (by kernel_rfl)) (fun _ _ _ h => h) (Or.inl ⟨by rfl, ?_⟩) hHeld ?_ ?_
              rotate_left
              · rintro w' s0
                go_simp
                with_reducible rfl
              rotate_left
              · simp only [Act.put, List.setIfInBounds_toArray, List.set_cons_zero, List.set_cons_succ, i64_w, i32_w, xu32_w, xu8_w]
                rfl
              refine take_ (i := 8) (N := some 44) (v := ?_) (a' := ?_) #[true, true, true, true, true, true, true, true, true, false, false, false, false] rfl rfl (take_ofW HT_.out HW_.out (by kernel_rfl)) (fun _ _ _ h => h) (Or.inl ⟨by rfl, ?_⟩) hHeld ?_ ?_
              rotate_left
              · rintro w' s0
                go_simp
                with_reducible rfl
              rotate_left
              · simp only [Act.put, List.setIfInBounds_toArray, List.set_cons_zero, List.set_cons_succ, i64_w, i32_w, xu32_w, xu8_w]
                rfl
              refine one_ (i := 9) (N := some 45) #[true, true, true, true, true, true, true, true, true, true, false, false, false] rfl rfl (one_of HT_.out (by kernel_rfl)) (by decide) (fun K hK => ?_)
              refine goes_ Tryd.func59 (by kernel_rfl) rfl #[.pointer (some ⟨b, 0, none⟩), .int .i32 lo] (by rfl) rfl rfl (by (try simp only [List.map_toArray, List.map_cons, List.map_nil]); first | done | rfl) ?_
              with_reducible refine (up_ok H5.out HU.out).mono ?_
              rintro e w6 ⟨rfl, h6, hs⟩
              refine ⟨_, rfl, ?_⟩
              have H6 := Aside0.mk h6
              have HS6 := Aside0.mk (HS5.out.trans hs)
              have HXB6 := Aside0.mk ((hs.block X (blk_lt HXB5.out) HXb.out).trans HXB5.out)
              have HA6 := Aside0.mk (Kd.R_step HA5.out (fun q hq hlt => hs.block q hlt (by have h1 := HH.out.lt; have h2 := hq.1; omega)))
              have hg6 : w6.cell? ⟨g4, 0, none⟩ = some (.int .i32 lo) := cell_keep hHeld (hs.block g4 HG5.out HGB.out)
              clear h6 hs
              refine hK.out _ _ hg6 (fun hHeld => ?_)
              clear hK K
              refine norm_ (a' := ?_) ?_ ?_
              rotate_left
              · show Act.put _ (some 45) _ = _
                simp only [Act.put, List.setIfInBounds_toArray, List.set_cons_zero, List.set_cons_succ, i64_w, i32_w, xu32_w, xu8_w]
                rfl
              refine pure_ (i := 10) (N := some 46) (v := ?_) (a' := ?_) #[true, true, true, true, true, true, true, true, true, true, true, false, false] rfl rfl (any_of HT_.out (by kernel_rfl)) (fun _ _ _ h => h) (Or.inl ⟨by rfl, ?_⟩) ?_ ?_
              rotate_left
              · intro w'
                go_simp
                with_reducible rfl
              rotate_left
              · simp only [Act.put, List.setIfInBounds_toArray, List.set_cons_zero, List.set_cons_succ, i64_w, i32_w, xu32_w, xu8_w]
                rfl
              refine one_ (i := 11) (N := some 47) #[true, true, true, true, true, true, true, true, true, true, true, true, false] rfl rfl (one_of HT_.out (by kernel_rfl)) (by decide) (fun K hK => ?_)
              refine value_ (v := .slice (some ⟨w6.heap.size, 0, none⟩) 1 1) (w1 := w6.alloc (.cells #[.int .i32 lo, .int .i32 hi] 86)) (by rfl) rfl (by first | (go_simp; done) | (go_simp; rfl)) ?_
              refine hK.out _ _ (cell_keep hHeld (Below.heap_alloc w6 _ g4 (cell_lt hHeld))) (fun hHeld => ?_)
              clear hK K
              refine norm_ (a' := ?_) ?_ ?_
              rotate_left
              · show Act.put _ (some 47) _ = _
                simp only [Act.put, List.setIfInBounds_toArray, List.set_cons_zero, List.set_cons_succ, i64_w, i32_w, xu32_w, xu8_w]
                rfl
              refine pure_ (i := 12) (N := some 5) (v := ?_) (a' := ?_) #[true, true, true, true, true, true, true, true, true, true, true, true, true] rfl rfl (any_of HT_.out (by kernel_rfl)) (fun _ _ _ h => h) (Or.inl ⟨by rfl, ?_⟩) ?_ ?_
              rotate_left
              · intro w'
                go_simp
                with_reducible rfl
              rotate_left
              · simp only [Act.put, List.setIfInBounds_toArray, List.set_cons_zero, List.set_cons_succ, i64_w, i32_w, xu32_w, xu8_w]
                rfl
              refine done_ (done_of HT_.out (by kernel_rfl)) ?_
              have HW7 := Aside0.mk (rfl : w6.alloc (.cells #[.int .i32 lo, .int .i32 hi] 86) = w6.alloc (.cells #[.int .i32 lo, .int .i32 hi] 86))
              have H7 := Aside0.mk (H6.out.below (below_alloc (Below.refl _ _) (.cells #[.int .i32 lo, .int .i32 hi] 86)))
              have HS7 := Aside0.mk (HS6.out.trans (Stp.of (below_alloc (Below.refl _ _) (.cells #[.int .i32 lo, .int .i32 hi] 86))))
              have HXB7 := Aside0.mk (blk_alloc HXB6.out (.cells #[.int .i32 lo, .int .i32 hi] 86))
              have HA7 := Aside0.mk (Kd.R_alloc HA6.out (.cells #[.int .i32 lo, .int .i32 hi] 86))
              have HSP7 := Aside0.mk (Spn.mk1' (w := w6) (lo := lo) (hi := hi) (Nat.le_refl _) (blk_new w6 (.cells #[.int .i32 lo, .int .i32 hi] 86)))
              have HW6 := Aside0.mk (show w6.heap.size ≤ (w6.alloc (.cells #[.int .i32 lo, .int .i32 hi] 86)).heap.size from by simp)
              generalize w6.alloc (.cells #[.int .i32 lo, .int .i32 hi] 86) = w7 at *
              clear HW7
              obtain ⟨x0, x1, x2, x3, x4, x5⟩ := nd_cell HXB7.out
              have xf := nd_frozen HXB7.out 1
              go_wp2_with (((with_reducible refine gate_builtin (b := .append) (xs := #[.tmp 52, .tmp 53]) rfl ?_); at_builtin; refine Kd.R_append_rows k86 (w0 := w7) w.heap.size rfl (.tmp 52) (.tmp 53) 71 86 (.agg #[.int .i32 0, .int .i32 0]) 8 rfl Tryd.underlying71 info86 rfl (by decide) (by omega) (.slice A acc.length cc) acc [⟨lo, hi⟩] (some ⟨w6.heap.size, 0, none⟩) 1 1 (fun q => w.heap.size ≤ q ∧ q ≠ X) (fun _ => False) rfl rfl HA7.out (Spn.rows HSP7.out).1 (fun x cs hK => by rw [k86_open hK]; exact k86_mkM _ _ _ _) (fun _ hq => hq.elim) (fun q hq => ⟨by have h1 := HS7.out.size; omega, fun e => by have h1 := blk_lt HXB7.out; omega⟩) (Below.refl _ _) HS7.out.size ?aL ?_; (case aL => have h1 := HB.out; have h2 := HLL.out; have h3 := HR.out.short; have h4 := HR.out.le; have h5 := HU2.out; omega); intro v5 w5 ho hb5 hg5 hat5; obtain ⟨A5, c5, rfl⟩ := Kd.R_slice ho; have HO := Aside0.mk ho; have HXB5 := Aside0.mk ((hg5.block X (blk_lt HXB7.out) (fun e => (HA7.out.1 X e.symm).2 rfl)).trans HXB7.out); have HB5 := Aside0.mk hb5; clear ho hb5 hg5 hat5 x0 x1 x2 x3 x4 x5 xf; obtain ⟨x0, x1, x2, x3, x4, x5⟩ := nd_cell HXB5.out; have xf := nd_frozen HXB5.out 1))
              go_roundg k1
              case measure => omega
              case rel => exact ⟨j2, false, _, A5, c5, rfl, ⟨HN.out⟩, ⟨Rd.far (Rd.grown H7.out (fun q hq hq2 => HB5.out.block q (by have h1 := HH.out.lt; have h2 := HH.out.two; omega))) HXb.out (by have h1 := HH.out.lt; have h2 := HX.out; have h3 := HH.out.two; omega) _ _⟩, ⟨(HS7.out.grown HB5.out (Nat.le_refl _)).far (by rw [HX.out]; exact Nat.le_refl _) _ _⟩, ⟨blk_put HXB5.out 1 _ (by (try simp only [List.length_append, List.length_cons, List.length_nil]); rfl)⟩, ⟨Kd.R_far HO.out (fun q hq => hq.2) _⟩, ⟨by rw [List.length_append]; have h1 := HB.out; have h2 := HLL.out; have h3 := HU2.out; simp only [List.length_singleton]; omega, by have h1 := HB.out; have h2 := HLL.out; have h3 := HU2.out; omega⟩⟩
          · have HP1 := Aside0.mk hp1
            clear hp1
            go_wp2_with (go_at_call 36; (with_reducible refine (peek_no HR.out HP1.out).mono ?_); rintro e w1 ⟨rfl, hb⟩; have HS1 := Aside0.mk (HS.out.trans (Stp.of hb)); clear hb)
            exact ⟨rfl, rfl, HS1.out⟩
          · have HP1 := Aside0.mk hp1
            have HC1 := Aside0.mk (show i2 + rl 93 ≤ s.size from ((peek_rune HR.out.le hp1).resolve_left (by decide)).2)
            clear hp1
            go_wp2_with (first
              | (go_at_call 36; (with_reducible refine (peek_ok HR.out HP1.out).mono ?_); rintro e w1 ⟨rfl, hb⟩; have H1 := Aside0.mk (HR.out.below hb); have HS1 := Aside0.mk (HS.out.trans (Stp.of hb)); have HXB1 := Aside0.mk ((hb.block X (blk_lt HXB.out)).trans HXB.out); have HA1 := Aside0.mk (Kd.R_below HA.out hb); clear hb)
              | (go_at_call 37; (with_reducible refine (skip_calls H1.out rune93 HC1.out).mono ?_); rintro e w2 ⟨rfl, h2, hs⟩; have H2 := Aside0.mk h2; have HS2 := Aside0.mk (HS1.out.trans hs); have HXB2 := Aside0.mk ((hs.block X (blk_lt HXB1.out) HXb.out).trans HXB1.out); have HA2 := Aside0.mk (Kd.R_step HA1.out (fun q hq hlt => hs.block q hlt (by have h1 := HH.out.lt; have h2 := hq.1; omega))); clear hs; obtain ⟨c0, c1, c2, c3⟩ := h2.cell; have f3 := h2.frozen 3; clear h2))
            go_ret
            have hW : wrap64 ((sz : Int) + 1) = ((sz + 1 : Nat) : Int) := by have h1 := HB.out; have h2 := HR.out.short; have h3 := HR.out.le; unfold wrap64; omega
            exact ⟨X, rfl, Rd.setz H2.out hW, HS2.out.trans (Stp.set 3 _), nd_one (by rw [HX.out]; exact Nat.le_refl _) ((Below.heap_setCell _ _ _ X (fun e => HXb.out e)).trans HXB2.out) (Kd.R_mono (Kd.R_far HA2.out (fun q hq => fun e => by have h1 := HH.out.lt; have h2 := hq.1; have e' : q = b := e; omega) _) (fun q hq => hq.1))⟩
      · have HXb0 := HC.out
        go_enter Tryd.func52, Tryd.ntmps52
        go_wp2_with (first
          | ((with_reducible refine gate_dst (N := 8) rfl ?_); refine box_event ?hg (N := 8) ?hd (cs := (ndL 0 (.slice none 0 0) false false (.slice none 0 0) 0).toArray) (t := 74) ?hr ?_; (case hd => rfl); (case hg => rfl); (case hr => first | (go_simp; done) | (go_simp; rfl)); intro X hX w1 hx1 hb1; have HX := Aside0.mk hX; have HXB1 := Aside0.mk hx1; have HB1 := Aside0.mk hb1; have H1 := Aside0.mk (HH.out.below hb1); clear hX hx1 hb1)
          | (go_at_call 36; (with_reducible refine (peek_ok H1.out HP.out).mono ?_); rintro e W1 ⟨rfl, hb⟩; have HB2 := Aside0.mk hb; have HRD := Aside0.mk (H1.out.below hb); have HXB := Aside0.mk ((hb.block X (blk_lt HXB1.out)).trans HXB1.out); clear hb))
        have HXb := Aside0.mk (show X ≠ b from fun e => by have h1 := HH.out.lt; have h2 := HX.out; omega)
        have HST := Aside0.mk (show Stp b w W1 from (Stp.of HB1.out).trans (Stp.of HB2.out))
        have HSL := Aside0.mk HSZ.out
        clear H1 HXB1 HB1 HB2 HXb0 hc94
        try go_frame
        go_loopg [4] k (fun kq v4 wr => ∃ (i2 : Nat) (first : Bool) (acc : List S86) (A : Option Addr) (cc : Nat), v4 = .bool first ∧ Aside0 (clsL kq s i2 acc first = some RL) ∧ Aside0 (Rd wr b s i2 d sz) ∧ Aside0 (Stp b w wr) ∧ Aside0 (wr.heap[X]? = some (.cells (ndL 0 (.slice A acc.length cc) false false (.slice none 0 0) 0).toArray 74 (0, 0))) ∧ Aside0 (k86.R 86 wr w.heap.size (fun q => w.heap.size ≤ q ∧ q ≠ X) (.slice A acc.length cc) acc) ∧ Aside0 (acc.length ≤ 4 * i2 ∧ sz ≤ i2))
        case atStart => exact ⟨_, true, [], none, 0, rfl, HL, HRD, HST, HXB, ⟨Kd.R_nil _ _ _ _ _⟩, ⟨by simp, HSL.out⟩⟩
        case round =>
          clear HRD HST HXB HL HSL
          obtain ⟨i2, first, acc, A, cc, rfl, HF, HR, HS, HXB, HA, HB⟩ := hrel
          cases gk with
          | zero => exact absurd HF.out (by simp [clsL])
          | succ k1 =>
          have hd := clsL_head HF.out
          rcases hd with ⟨rfl, hB⟩ | ⟨rfl, c1, hp1, hne, hB⟩ | ⟨rfl, hp1, rfl⟩ | ⟨rfl, hp1, rfl⟩
          · skip
            rcases hB with ⟨a1, e1, hm, rfl⟩ | ⟨l, j, hm, hN⟩ | ⟨l, j, hm, hp2, rfl⟩ | ⟨l, j, c2, hm, hp2, h45, hN⟩ | ⟨l, j, a1, e1, hm, hp2, hu, rfl⟩ | ⟨l, j, hi, j2, hm, hp2, hu, hN⟩
            · have HM := Aside0.mk hm
              clear hm
              go_wp2_with (first
                | (go_at_call 58; (with_reducible refine (mem_bad HR.out HM.out).mono ?_); rintro e w2 ⟨rfl, hs⟩; have HS2 := Aside0.mk (HS.out.trans hs); clear hs))
              exact ⟨rfl, rfl, HS2.out⟩
            · have HM := Aside0.mk hm
              have HLL := Aside0.mk (mem_len hm)
              clear hm
              have HN := Aside0.mk hN
              clear hN
              go_wp2_with (first
                | (go_at_call 58; (with_reducible refine (mem_ok HR.out HM.out).mono ?_); rintro e w2 ⟨v, rfl, h2, hs, hSp⟩; obtain ⟨g4, c4, rfl, _⟩ := id hSp; have H2 := Aside0.mk h2; have HSP := Aside0.mk hSp; have HS2 := Aside0.mk (HS.out.trans hs); have HXB2 := Aside0.mk ((hs.block X (blk_lt HXB.out) HXb.out).trans HXB.out); have HA2 := Aside0.mk (Kd.R_step HA.out (fun q hq hlt => hs.block q hlt (by have h1 := HH.out.lt; have h2 := hq.1; omega))); clear h2 hs hSp; obtain ⟨x0, x1, x2, x3, x4, x5⟩ := nd_cell HXB2.out; have xf := nd_frozen HXB2.out 1; have HBW := Aside0.mk HR.out.lt)
                | ((with_reducible refine gate_builtin (b := .append) (xs := #[.tmp 52, .tmp 53]) rfl ?_); at_builtin; refine Kd.R_append_rows k86 (w0 := w2) w.heap.size rfl (.tmp 52) (.tmp 53) 71 86 (.agg #[.int .i32 0, .int .i32 0]) 8 rfl Tryd.underlying71 info86 rfl (by decide) (by omega) (.slice A acc.length cc) acc l (some ⟨g4, 0, none⟩) l.length c4 (fun q => w.heap.size ≤ q ∧ q ≠ X) (fun _ => False) rfl rfl HA2.out (Spn.rows HSP.out).1 (fun x cs hK => by rw [k86_open hK]; exact k86_mkM _ _ _ _) (fun _ hq => hq.elim) (fun q hq => ⟨Nat.le_trans HS2.out.size hq, fun e => by have := blk_lt HXB2.out; omega⟩) (Below.refl _ _) HS2.out.size ?aL ?_; (case aL => have h1 := HB.out; have h2 := HLL.out; have h3 := HR.out.short; have h4 := HR.out.le; omega); intro v5 w5 ho hb5 hg5 hat5; obtain ⟨A5, c5, rfl⟩ := Kd.R_slice ho; have HO := Aside0.mk ho; have HXB5 := Aside0.mk ((hg5.block X (blk_lt HXB2.out) (fun e => (HA2.out.1 X e.symm).2 rfl)).trans HXB2.out); have HB5 := Aside0.mk hb5; clear ho hb5 hg5 hat5 x0 x1 x2 x3 x4 x5 xf; obtain ⟨x0, x1, x2, x3, x4, x5⟩ := nd_cell HXB5.out; have xf := nd_frozen HXB5.out 1))
              go_roundg k1
              case measure => omega
              case rel => exact ⟨j, false, _, A5, c5, rfl, ⟨HN.out⟩, ⟨Rd.far (Rd.grown H2.out (fun q hq hq2 => HB5.out.block q (by have h1 := HH.out.lt; have h2 := HH.out.two; omega))) HXb.out (by have h1 := HH.out.lt; have h2 := HX.out; have h3 := HH.out.two; omega) _ _⟩, ⟨(HS2.out.grown HB5.out (Nat.le_refl _)).far (by rw [HX.out]; exact Nat.le_refl _) _ _⟩, ⟨blk_put HXB5.out 1 _ (by (try simp only [List.length_append, List.length_cons, List.length_nil]); rfl)⟩, ⟨Kd.R_far HO.out (fun q hq => hq.2) _⟩, ⟨by rw [List.length_append]; have h1 := HB.out; have h2 := HLL.out; omega, by have h1 := HB.out; have h2 := HLL.out; omega⟩⟩
            · have HM := Aside0.mk hm
              have HLL := Aside0.mk (mem_len hm)
              clear hm
              have HP2 := Aside0.mk hp2
              clear hp2
              go_wp2_with (first
                | (go_at_call 58; (with_reducible refine (mem_ok HR.out HM.out).mono ?_); rintro e w2 ⟨v, rfl, h2, hs, hSp⟩; obtain ⟨g4, c4, rfl, _⟩ := id hSp; have H2 := Aside0.mk h2; have HSP := Aside0.mk hSp; have HS2 := Aside0.mk (HS.out.trans hs); have HXB2 := Aside0.mk ((hs.block X (blk_lt HXB.out) HXb.out).trans HXB.out); have HA2 := Aside0.mk (Kd.R_step HA.out (fun q hq hlt => hs.block q hlt (by have h1 := HH.out.lt; have h2 := hq.1; omega))); clear h2 hs hSp; obtain ⟨x0, x1, x2, x3, x4, x5⟩ := nd_cell HXB2.out; have xf := nd_frozen HXB2.out 1; have HBW := Aside0.mk HR.out.lt)
                | (go_at_call 36; (with_reducible refine (peek_no H2.out HP2.out).mono ?_); rintro e w3 ⟨rfl, hb⟩; have HS3 := Aside0.mk (HS2.out.trans (Stp.of hb)); clear hb))
              exact ⟨rfl, rfl, HS3.out⟩
            · have HM := Aside0.mk hm
              have HLL := Aside0.mk (mem_len hm)
              clear hm
              have HP2 := Aside0.mk hp2
              have HN := Aside0.mk hN
              clear hp2 hN
              go_wp2_with (first
                | (go_at_call 58; (with_reducible refine (mem_ok HR.out HM.out).mono ?_); rintro e w2 ⟨v, rfl, h2, hs, hSp⟩; obtain ⟨g4, c4, rfl, _⟩ := id hSp; have H2 := Aside0.mk h2; have HSP := Aside0.mk hSp; have HS2 := Aside0.mk (HS.out.trans hs); have HXB2 := Aside0.mk ((hs.block X (blk_lt HXB.out) HXb.out).trans HXB.out); have HA2 := Aside0.mk (Kd.R_step HA.out (fun q hq hlt => hs.block q hlt (by have h1 := HH.out.lt; have h2 := hq.1; omega))); clear h2 hs hSp; obtain ⟨x0, x1, x2, x3, x4, x5⟩ := nd_cell HXB2.out; have xf := nd_frozen HXB2.out 1; have HBW := Aside0.mk HR.out.lt)
                | (go_at_call 36; (with_reducible refine (peek_ok H2.out HP2.out).mono ?_); rintro e w3 ⟨rfl, hb⟩; have H3 := Aside0.mk (H2.out.below hb); have HS3 := Aside0.mk (HS2.out.trans (Stp.of hb)); have HXB3 := Aside0.mk ((hb.block X (blk_lt HXB2.out)).trans HXB2.out); have HA3 := Aside0.mk (Kd.R_below HA2.out hb); have HSP3 := Aside0.mk (HSP.out.stp (Stp.of (b := b) hb) HBW.out); clear hb x0 x1 x2 x3 x4 x5 xf; obtain ⟨x0, x1, x2, x3, x4, x5⟩ := nd_cell HXB3.out; have xf := nd_frozen HXB3.out 1)
                | ((with_reducible refine gate_builtin (b := .append) (xs := #[.tmp 52, .tmp 53]) rfl ?_); at_builtin; refine Kd.R_append_rows k86 (w0 := w3) w.heap.size rfl (.tmp 52) (.tmp 53) 71 86 (.agg #[.int .i32 0, .int .i32 0]) 8 rfl Tryd.underlying71 info86 rfl (by decide) (by omega) (.slice A acc.length cc) acc l (some ⟨g4, 0, none⟩) l.length c4 (fun q => w.heap.size ≤ q ∧ q ≠ X) (fun _ => False) rfl rfl HA3.out (Spn.rows HSP3.out).1 (fun x cs hK => by rw [k86_open hK]; exact k86_mkM _ _ _ _) (fun _ hq => hq.elim) (fun q hq => ⟨Nat.le_trans HS3.out.size hq, fun e => by have := blk_lt HXB3.out; omega⟩) (Below.refl _ _) HS3.out.size ?aL ?_; (case aL => have h1 := HB.out; have h2 := HLL.out; have h3 := HR.out.short; have h4 := HR.out.le; omega); intro v5 w5 ho hb5 hg5 hat5; obtain ⟨A5, c5, rfl⟩ := Kd.R_slice ho; have HO := Aside0.mk ho; have HXB5 := Aside0.mk ((hg5.block X (blk_lt HXB3.out) (fun e => (HA3.out.1 X e.symm).2 rfl)).trans HXB3.out); have HB5 := Aside0.mk hb5; clear ho hb5 hg5 hat5 x0 x1 x2 x3 x4 x5 xf; obtain ⟨x0, x1, x2, x3, x4, x5⟩ := nd_cell HXB5.out; have xf := nd_frozen HXB5.out 1))
              go_roundg k1
              case measure => omega
              case rel => exact ⟨j, false, _, A5, c5, rfl, ⟨HN.out⟩, ⟨Rd.far (Rd.grown H3.out (fun q hq hq2 => HB5.out.block q (by have h1 := HH.out.lt; have h2 := HH.out.two; omega))) HXb.out (by have h1 := HH.out.lt; have h2 := HX.out; have h3 := HH.out.two; omega) _ _⟩, ⟨(HS3.out.grown HB5.out (Nat.le_refl _)).far (by rw [HX.out]; exact Nat.le_refl _) _ _⟩, ⟨blk_put HXB5.out 1 _ (by (try simp only [List.length_append, List.length_cons, List.length_nil]); rfl)⟩, ⟨Kd.R_far HO.out (fun q hq => hq.2) _⟩, ⟨by rw [List.length_append]; have h1 := HB.out; have h2 := HLL.out; omega, by have h1 := HB.out; have h2 := HLL.out; omega⟩⟩
            · have HM := Aside0.mk hm
              have HLL := Aside0.mk (mem_len hm)
              clear hm
              have HP2 := Aside0.mk hp2
              have HNE := Aside0.mk (mem_ne HM.out)
              have HC3 := Aside0.mk (show j + rl 45 ≤ s.size from ((peek_rune (by have h1 := HR.out.le; first | exact mem_le HR.out.le HM.out) hp2).resolve_left (by decide)).2)
              generalize hlo : (l.getD 0 z86).f0 = lo at *
              have HLO := Aside0.mk hlo
              have HU := Aside0.mk hu
              clear hp2 hu hlo
              go_wp2_with (first
                | (go_at_call 58; (with_reducible refine (mem_ok HR.out HM.out).mono ?_); rintro e w2 ⟨v, rfl, h2, hs, hSp⟩; obtain ⟨g4, c4, rfl, _⟩ := id hSp; have H2 := Aside0.mk h2; have HSP := Aside0.mk hSp; have HS2 := Aside0.mk (HS.out.trans hs); have HXB2 := Aside0.mk ((hs.block X (blk_lt HXB.out) HXb.out).trans HXB.out); have HA2 := Aside0.mk (Kd.R_step HA.out (fun q hq hlt => hs.block q hlt (by have h1 := HH.out.lt; have h2 := hq.1; omega))); clear h2 hs hSp; obtain ⟨x0, x1, x2, x3, x4, x5⟩ := nd_cell HXB2.out; have xf := nd_frozen HXB2.out 1; have HBW := Aside0.mk HR.out.lt)
                | (go_at_call 36; (with_reducible refine (peek_ok H2.out HP2.out).mono ?_); rintro e w3 ⟨rfl, hb⟩; have H3 := Aside0.mk (H2.out.below hb); have HS3 := Aside0.mk (HS2.out.trans (Stp.of hb)); have HXB3 := Aside0.mk ((hb.block X (blk_lt HXB2.out)).trans HXB2.out); have HA3 := Aside0.mk (Kd.R_below HA2.out hb); have HSP3 := Aside0.mk (HSP.out.stp (Stp.of (b := b) hb) HBW.out); clear hb x0 x1 x2 x3 x4 x5 xf; obtain ⟨x0, x1, x2, x3, x4, x5⟩ := nd_cell HXB3.out; have xf := nd_frozen HXB3.out 1)
                | (go_at_call 37; (with_reducible refine (skip_calls H3.out rune45 HC3.out).mono ?_); rintro e w4 ⟨rfl, h4, hs⟩; have H4 := Aside0.mk h4; have HS4 := Aside0.mk (HS3.out.trans hs); have HXB4 := Aside0.mk ((hs.block X (blk_lt HXB3.out) HXb.out).trans HXB3.out); have HA4 := Aside0.mk (Kd.R_step HA3.out (fun q hq hlt => hs.block q hlt (by have h1 := HH.out.lt; have h2 := hq.1; omega))); have HSP4 := Aside0.mk (HSP3.out.stp hs HBW.out); clear h4 hs x0 x1 x2 x3 x4 x5 xf))
              have HGB := Aside0.mk (show g4 ≠ b from fun e => by have h1 := (Spn.addr HSP.out).1; have h2 := HBW.out; omega)
              have y0 := (Spn.at0 HSP4.out HNE.out).1
              rw [HLO.out] at y0
              have yl : 0 < l.length := List.length_pos_iff.2 HNE.out
              refine start_ (n := 13) (S := fun w' => w'.cell? ⟨g4, 0, none⟩ = some (.int .i32 lo)) (ds := []) #[false, false, false, false, false, false, false, false, false, false, false, false, false] (by kernel_rfl) rfl rfl (show w4.drew.cell? ⟨g4, 0, none⟩ = some (.int .i32 lo) from y0) (fun hHeld => ?_); refine with_tabW cls.tab11 cls.bits11 (fun HT_ HW_ => ?_)
              have H5 := Aside0.mk (H4.out.below (below_drew1 (Below.refl _ _)))
              have HS5 := Aside0.mk (HS4.out.trans (Stp.of (below_drew1 (Below.refl _ _))))
              have HXB5 := Aside0.mk (((below_drew1 (Below.refl w4.heap.size w4)).block X (blk_lt HXB4.out)).trans HXB4.out)
              have HA5 := Aside0.mk (Kd.R_below HA4.out (below_drew1 (Below.refl _ _)))
              have HG5 := Aside0.mk (show g4 < w4.drew.heap.size from Nat.lt_of_lt_of_le (Spn.addr HSP4.out).2 (below_drew1 (Below.refl w4.heap.size w4)).size)
              generalize w4.drew = W5 at *
              refine pure_ (i := 0) (N := some 36) (v := ?_) (a' := ?_) #[true, false, false, false, false, false, false, false, false, false, false, false, false] rfl rfl (any_of HT_.out (by kernel_rfl)) (fun _ _ _ h => h) (Or.inl ⟨by rfl, ?_⟩) ?_ ?_
              rotate_left
              · intro w'
                go_simp
                with_reducible rfl
              rotate_left
              · simp only [Act.put, List.setIfInBounds_toArray, List.set_cons_zero, List.set_cons_succ, i64_w, i32_w, xu32_w, xu8_w]
                rfl
              refine pure_ (i := 1) (N := some 37) (v := ?_) (a' := ?_) #[true, true, false, false, false, false, false, false, false, false, false, false, false] rfl rfl (any_of HT_.out (by kernel_rfl)) (fun _ _ _ h => h) (Or.inl ⟨by rfl, ?_⟩) ?_ ?_
              rotate_left
              · intro w'
                go_simp
                with_reducible rfl
              rotate_left
              · simp only [Act.put, List.setIfInBounds_toArray, List.set_cons_zero, List.set_cons_succ, i64_w, i32_w, xu32_w, xu8_w]
                rfl
              refine pure_ (i := 2) (N := some 38) (v := ?_) (a' := ?_) #[true, true, true, false, false, false, false, false, false, false, false, false, false] rfl rfl (any_of HT_.out (by kernel_rfl)) (fun _ _ _ h => h) (Or.inl ⟨by rfl, ?_⟩) ?_ ?_
              rotate_left
              · intro w'
                go_simp
                with_reducible rfl
              rotate_left
              · simp only [Act.put, List.setIfInBounds_toArray, List.set_cons_zero, List.set_cons_succ, i64_w, i32_w, xu32_w, xu8_w]
                rfl
              refine pure_ (i := 4) (N := some 40) (v := ?_) (a' := ?_) #[true, true, true, false, true, false, false, false, false, false, false, false, false] rfl rfl (any_of HT_.out (by kernel_rfl)) (fun _ _ _ h => h) (Or.inl ⟨by rfl, ?_⟩) ?_ ?_
              rotate_left
              · intro w'
                go_simp
                with_reducible rfl
              rotate_left
              · simp only [Act.put, List.setIfInBounds_toArray, List.set_cons_zero, List.set_cons_succ, i64_w, i32_w, xu32_w, xu8_w]
                rfl
              refine pure_ (i := 5) (N := some 41) (v := ?_) (a' := ?_) #[true, true, true, false, true, true, false, false, false, false, false, false, false] rfl rfl (any_of HT_.out (by kernel_rfl)) (fun _ _ _ h => h) (Or.inl ⟨by rfl, ?_⟩) ?_ ?_
              rotate_left
              · intro w'
                go_simp
                with_reducible rfl
              rotate_left
              · simp only [Act.put, List.setIfInBounds_toArray, List.set_cons_zero, List.set_cons_succ, i64_w, i32_w, xu32_w, xu8_w]
                rfl
              refine pure_ (i := 6) (N := some 42) (v := ?_) (a' := ?_) #[true, true, true, false, true, true, true, false, false, false, false, false, false] rfl rfl (any_of HT_.out (by kernel_rfl)) (fun _ _ _ h => h) (Or.inl ⟨by rfl, ?_⟩) ?_ ?_
              rotate_left
              · intro w'
                go_simp
                with_reducible rfl
              rotate_left
              · simp only [Act.put, List.setIfInBounds_toArray, List.set_cons_zero, List.set_cons_succ, i64_w, i32_w, xu32_w, xu8_w]
                rfl
              refine pure_ (i := 7) (N := some 43) (v := ?_) (a' := ?_) #[true, true, true, false, true, true, true, true, false, false, false, false, false] rfl rfl (any_of HT_.out (by kernel_rfl)) (fun _ _ _ h => h) (Or.inl ⟨by rfl, ?_⟩) ?_ ?_
              rotate_left
              · intro w'
                go_simp
                with_reducible rfl
              rotate_left
              · simp only [Act.put, List.setIfInBounds_toArray, List.set_cons_zero, List.set_cons_succ, i64_w, i32_w, xu32_w, xu8_w]
                rfl
              refine take_ (i := 3) (N := some 39) (v := ?_) (a' := ?_) #[true, true, true, true, true, true, true, true, false, false, false, false, false] rfl rfl (take_ofW HT_.out HW_.out (by kernel_rfl)) (fun _ _ _ h => h) (Or.inl ⟨by rfl, ?_⟩) hHeld ?_ ?_
              rotate_left
              · rintro w' s0
                go_simp
                with_reducible rfl
              rotate_left
              · simp only [Act.put, List.setIfInBounds_toArray, List.set_cons_zero, List.set_cons_succ, i64_w, i32_w, xu32_w, xu8_w]
                rfl
              refine take_ (i := 8) (N := some 44) (v := ?_) (a' := ?_) #[true, true, true, true, true, true, true, true, true, false, false, false, false] rfl rfl (take_ofW HT_.out HW_.out (by kernel_rfl)) (fun _ _ _ h => h) (Or.inl ⟨by rfl, ?_⟩) hHeld ?_ ?_
              rotate_left
              · rintro w' s0
                go_simp
                with_reducible rfl
              rotate_left
              · simp only [Act.put, List.setIfInBounds_toArray, List.set_cons_zero, List.set_cons_succ, i64_w, i32_w, xu32_w, xu8_w]
                rfl
              refine one_ (i := 9) (N := some 45) #[true, true, true, true, true, true, true, true, true, true, false, false, false] rfl rfl (one_of HT_.out (by kernel_rfl)) (by decide) (fun K hK => ?_)
              refine goesP_ Tryd.func59 (by kernel_rfl) rfl #[.pointer (some ⟨b, 0, none⟩), .int .i32 lo] (by rfl) rfl rfl (by (try simp only [List.map_toArray, List.map_cons, List.map_nil]); first | done | rfl) ?_
              with_reducible refine (up_bad H5.out HU.out).mono ?_
              rintro e w6 ⟨rfl, hs⟩
              exact ⟨_, rfl, rfl, rfl, HS5.out.trans hs⟩
            · have HM := Aside0.mk hm
              have HLL := Aside0.mk (mem_len hm)
              clear hm
              have HP2 := Aside0.mk hp2
              have HNE := Aside0.mk (mem_ne HM.out)
              have HC3 := Aside0.mk (show j + rl 45 ≤ s.size from ((peek_rune (by have h1 := HR.out.le; first | exact mem_le HR.out.le HM.out) hp2).resolve_left (by decide)).2)
              generalize hlo : (l.getD 0 z86).f0 = lo at *
              have HLO := Aside0.mk hlo
              have HU := Aside0.mk hu
              clear hp2 hu hlo
              have HN := Aside0.mk hN
              have HU2 := Aside0.mk (up_len HU.out)
              clear hN
              go_wp2_with (first
                | (go_at_call 58; (with_reducible refine (mem_ok HR.out HM.out).mono ?_); rintro e w2 ⟨v, rfl, h2, hs, hSp⟩; obtain ⟨g4, c4, rfl, _⟩ := id hSp; have H2 := Aside0.mk h2; have HSP := Aside0.mk hSp; have HS2 := Aside0.mk (HS.out.trans hs); have HXB2 := Aside0.mk ((hs.block X (blk_lt HXB.out) HXb.out).trans HXB.out); have HA2 := Aside0.mk (Kd.R_step HA.out (fun q hq hlt => hs.block q hlt (by have h1 := HH.out.lt; have h2 := hq.1; omega))); clear h2 hs hSp; obtain ⟨x0, x1, x2, x3, x4, x5⟩ := nd_cell HXB2.out; have xf := nd_frozen HXB2.out 1; have HBW := Aside0.mk HR.out.lt)
                | (go_at_call 36; (with_reducible refine (peek_ok H2.out HP2.out).mono ?_); rintro e w3 ⟨rfl, hb⟩; have H3 := Aside0.mk (H2.out.below hb); have HS3 := Aside0.mk (HS2.out.trans (Stp.of hb)); have HXB3 := Aside0.mk ((hb.block X (blk_lt HXB2.out)).trans HXB2.out); have HA3 := Aside0.mk (Kd.R_below HA2.out hb); have HSP3 := Aside0.mk (HSP.out.stp (Stp.of (b := b) hb) HBW.out); clear hb x0 x1 x2 x3 x4 x5 xf; obtain ⟨x0, x1, x2, x3, x4, x5⟩ := nd_cell HXB3.out; have xf := nd_frozen HXB3.out 1)
                | (go_at_call 37; (with_reducible refine (skip_calls H3.out rune45 HC3.out).mono ?_); rintro e w4 ⟨rfl, h4, hs⟩; have H4 := Aside0.mk h4; have HS4 := Aside0.mk (HS3.out.trans hs); have HXB4 := Aside0.mk ((hs.block X (blk_lt HXB3.out) HXb.out).trans HXB3.out); have HA4 := Aside0.mk (Kd.R_step HA3.out (fun q hq hlt => hs.block q hlt (by have h1 := HH.out.lt; have h2 := hq.1; omega))); have HSP4 := Aside0.mk (HSP3.out.stp hs HBW.out); clear h4 hs x0 x1 x2 x3 x4 x5 xf))
              have HGB := Aside0.mk (show g4 ≠ b from fun e => by have h1 := (Spn.addr HSP.out).1; have h2 := HBW.out; omega)
              have y0 := (Spn.at0 HSP4.out HNE.out).1
              rw [HLO.out] at y0
              have yl : 0 < l.length := List.length_pos_iff.2 HNE.out
              refine start_ (n := 13) (S := fun w' => w'.cell? ⟨g4, 0, none⟩ = some (.int .i32 lo)) (ds := []) #[false, false, false, false, false, false, false, false, false, false, false, false, false] (by kernel_rfl) rfl rfl (show w4.drew.cell? ⟨g4, 0, none⟩ = some (.int .i32 lo) from y0) (fun hHeld => ?_); refine with_tabW cls.tab11 cls.bits11 (fun HT_ HW_ => ?_)
              have H5 := Aside0.mk (H4.out.below (below_drew1 (Below.refl _ _)))
              have HS5 := Aside0.mk (HS4.out.trans (Stp.of (below_drew1 (Below.refl _ _))))
              have HXB5 := Aside0.mk (((below_drew1 (Below.refl w4.heap.size w4)).block X (blk_lt HXB4.out)).trans HXB4.out)
              have HA5 := Aside0.mk (Kd.R_below HA4.out (below_drew1 (Below.refl _ _)))
              have HG5 := Aside0.mk (show g4 < w4.drew.heap.size from Nat.lt_of_lt_of_le (Spn.addr HSP4.out).2 (below_drew1 (Below.refl w4.heap.size w4)).size)
              generalize w4.drew = W5 at *
              refine pure_ (i := 0) (N := some 36) (v := ?_) (a' := ?_) #[true, false, false, false, false, false, false, false, false, false, false, false, false] rfl rfl (any_of HT_.out (by kernel_rfl)) (fun _ _ _ h => h) (Or.inl ⟨by rfl, ?_⟩) ?_ ?_
              rotate_left
              · intro w'
                go_simp
                with_reducible rfl
              rotate_left
              · simp only [Act.put, List.setIfInBounds_toArray, List.set_cons_zero, List.set_cons_succ, i64_w, i32_w, xu32_w, xu8_w]
                rfl
              refine pure_ (i := 1) (N := some 37) (v := ?_) (a' := ?_) #[true, true, false, false, false, false, false, false, false, false, false, false, false] rfl rfl (any_of HT_.out (by kernel_rfl)) (fun _ _ _ h => h) (Or.inl ⟨by rfl, ?_⟩) ?_ ?_
              rotate_left
              · intro w'
                go_simp
                with_reducible rfl
              rotate_left
              · simp only [Act.put, List.setIfInBounds_toArray, List.set_cons_zero, List.set_cons_succ, i64_w, i32_w, xu32_w, xu8_w]
                rfl
              refine pure_ (i := 2) (N := some 38) (v := ?_) (a' := ?_) #[true, true, true, false, false, false, false, false, false, false, false, false, false] rfl rfl (any_of HT_.out (by kernel_rfl)) (fun _ _ _ h => h) (Or.inl ⟨by rfl, ?_⟩) ?_ ?_
              rotate_left
              · intro w'
                go_simp
                with_reducible rfl
              rotate_left
              · simp only [Act.put, List.setIfInBounds_toArray, List.set_cons_zero, List.set_cons_succ, i64_w, i32_w, xu32_w, xu8_w]
                rfl
              refine pure_ (i := 4) (N := some 40) (v := ?_) (a' := ?_) #[true, true, true, false, true, false, false, false, false, false, false, false, false] rfl rfl (any_of HT_.out (by kernel_rfl)) (fun _ _ _ h => h) (Or.inl ⟨by rfl, ?_⟩) ?_ ?_
              rotate_left
              · intro w'
                go_simp
                with_reducible rfl
              rotate_left
              · simp only [Act.put, List.setIfInBounds_toArray, List.set_cons_zero, List.set_cons_succ, i64_w, i32_w, xu32_w, xu8_w]
                rfl
              refine pure_ (i := 5) (N := some 41) (v := ?_) (a' := ?_) #[true, true, true, false, true, true, false, false, false, false, false, false, false] rfl rfl (any_of HT_.out (by kernel_rfl)) (fun _ _ _ h => h) (Or.inl ⟨by rfl, ?_⟩) ?_ ?_
              rotate_left
              · intro w'
                go_simp
                with_reducible rfl
              rotate_left
              · simp only [Act.put, List.setIfInBounds_toArray, List.set_cons_zero, List.set_cons_succ, i64_w, i32_w, xu32_w, xu8_w]
                rfl
              refine pure_ (i := 6) (N := some 42) (v := ?_) (a' := ?_) #[true, true, true, false, true, true, true, false, false, false, false, false, false] rfl rfl (any_of HT_.out (by kernel_rfl)) (fun _ _ _ h => h) (Or.inl ⟨by rfl, ?_⟩) ?_ ?_
              rotate_left
              · intro w'
                go_simp
                with_reducible rfl
              rotate_left
              · simp only [Act.put, List.setIfInBounds_toArray, List.set_cons_zero, List.set_cons_succ, i64_w, i32_w, xu32_w, xu8_w]
                rfl
              refine pure_ (i := 7) (N := some 43) (v := ?_) (a' := ?_) #[true, true, true, false, true, true, true, true, false, false, false, false, false] rfl rfl (any_of HT_.out (by kernel_rfl)) (fun _ _ _ h => h) (Or.inl ⟨by rfl, ?_⟩) ?_ ?_
              rotate_left
              · intro w'
                go_simp
                with_reducible rfl
              rotate_left
              · simp only [Act.put, List.setIfInBounds_toArray, List.set_cons_zero, List.set_cons_succ, i64_w, i32_w, xu32_w, xu8_w]
                rfl
              refine take_ (i := 3) (N := some 39) (v := ?_) (a' := ?_) #[true, true, true, true, true, true, true, true, false, false, false, false, false] rfl rfl (take_ofW HT_.out HW_.out (by kernel_rfl)) (fun _ _ _ h => h) (Or.inl ⟨by rfl, ?_⟩) hHeld ?_ ?_
              rotate_left
              · rintro w' s0
                go_simp
                with_reducible rfl
              rotate_left
              · simp only [Act.put, List.setIfInBounds_toArray, List.set_cons_zero, List.set_cons_succ, i64_w, i32_w, xu32_w, xu8_w]
                rfl
              refine take_ (i := 8) (N := some 44) (v := ?_) (a' := ?_) #[true, true, true, true, true, true, true, true, true, false, false, false, false] rfl rfl (take_ofW HT_.out HW_.out (by kernel_rfl)) (fun _ _ _ h => h) (Or.inl ⟨by rfl, ?_⟩) hHeld ?_ ?_
              rotate_left
              · rintro w' s0
                go_simp
                with_reducible rfl
              rotate_left
              · simp only [Act.put, List.setIfInBounds_toArray, List.set_cons_zero, List.set_cons_succ, i64_w, i32_w, xu32_w, xu8_w]
                rfl
              refine one_ (i := 9) (N := some 45) #[true, true, true, true, true, true, true, true, true, true, false, false, false] rfl rfl (one_of HT_.out (by kernel_rfl)) (by decide) (fun K hK => ?_)
              refine goes_ Tryd.func59 (by kernel_rfl) rfl #[.pointer (some ⟨b, 0, none⟩), .int .i32 lo] (by rfl) rfl rfl (by (try simp only [List.map_toArray, List.map_cons, List.map_nil]); first | done | rfl) ?_
              with_reducible refine (up_ok H5.out HU.out).mono ?_
              rintro e w6 ⟨rfl, h6, hs⟩
              refine ⟨_, rfl, ?_⟩
              have H6 := Aside0.mk h6
              have HS6 := Aside0.mk (HS5.out.trans hs)
              have HXB6 := Aside0.mk ((hs.block X (blk_lt HXB5.out) HXb.out).trans HXB5.out)
              have HA6 := Aside0.mk (Kd.R_step HA5.out (fun q hq hlt => hs.block q hlt (by have h1 := HH.out.lt; have h2 := hq.1; omega)))
              have hg6 : w6.cell? ⟨g4, 0, none⟩ = some (.int .i32 lo) := cell_keep hHeld (hs.block g4 HG5.out HGB.out)
              clear h6 hs
              refine hK.out _ _ hg6 (fun hHeld => ?_)
              clear hK K
              refine norm_ (a' := ?_) ?_ ?_
              rotate_left
              · show Act.put _ (some 45) _ = _
                simp only [Act.put, List.setIfInBounds_toArray, List.set_cons_zero, List.set_cons_succ, i64_w, i32_w, xu32_w, xu8_w]
                rfl
              refine pure_ (i := 10) (N := some 46) (v := ?_) (a' := ?_) #[true, true, true, true, true, true, true, true, true, true, true, false, false] rfl rfl (any_of HT_.out (by kernel_rfl)) (fun _ _ _ h => h) (Or.inl ⟨by rfl, ?_⟩) ?_ ?_
              rotate_left
              · intro w'
                go_simp
                with_reducible rfl
              rotate_left
              · simp only [Act.put, List.setIfInBounds_toArray, List.set_cons_zero, List.set_cons_succ, i64_w, i32_w, xu32_w, xu8_w]
                rfl
              refine one_ (i := 11) (N := some 47) #[true, true, true, true, true, true, true, true, true, true, true, true, false] rfl rfl (one_of HT_.out (by kernel_rfl)) (by decide) (fun K hK => ?_)
              refine value_ (v := .slice (some ⟨w6.heap.size, 0, none⟩) 1 1) (w1 := w6.alloc (.cells #[.int .i32 lo, .int .i32 hi] 86)) (by rfl) rfl (by first | (go_simp; done) | (go_simp; rfl)) ?_
              refine hK.out _ _ (cell_keep hHeld (Below.heap_alloc w6 _ g4 (cell_lt hHeld))) (fun hHeld => ?_)
              clear hK K
              refine norm_ (a' := ?_) ?_ ?_
              rotate_left
              · show Act.put _ (some 47) _ = _
                simp only [Act.put, List.setIfInBounds_toArray, List.set_cons_zero, List.set_cons_succ, i64_w, i32_w, xu32_w, xu8_w]
                rfl
              refine pure_ (i := 12) (N := some 5) (v := ?_) (a' := ?_) #[true, true, true, true, true, true, true, true, true, true, true, true, true] rfl rfl (any_of HT_.out (by kernel_rfl)) (fun _ _ _ h => h) (Or.inl ⟨by rfl, ?_⟩) ?_ ?_
              rotate_left
              · intro w'
                go_simp
                with_reducible rfl
              rotate_left
              · simp only [Act.put, List.setIfInBounds_toArray, List.set_cons_zero, List.set_cons_succ, i64_w, i32_w, xu32_w, xu8_w]
                rfl
              refine done_ (done_of HT_.out (by kernel_rfl)) ?_
              have HW7 := Aside0.mk (rfl : w6.alloc (.cells #[.int .i32 lo, .int .i32 hi] 86) = w6.alloc (.cells #[.int .i32 lo, .int .i32 hi] 86))
              have H7 := Aside0.mk (H6.out.below (below_alloc (Below.refl _ _) (.cells #[.int .i32 lo, .int .i32 hi] 86)))
              have HS7 := Aside0.mk (HS6.out.trans (Stp.of (below_alloc (Below.refl _ _) (.cells #[.int .i32 lo, .int .i32 hi] 86))))
              have HXB7 := Aside0.mk (blk_alloc HXB6.out (.cells #[.int .i32 lo, .int .i32 hi] 86))
              have HA7 := Aside0.mk (Kd.R_alloc HA6.out (.cells #[.int .i32 lo, .int .i32 hi] 86))
              have HSP7 := Aside0.mk (Spn.mk1' (w := w6) (lo := lo) (hi := hi) (Nat.le_refl _) (blk_new w6 (.cells #[.int .i32 lo, .int .i32 hi] 86)))
              have HW6 := Aside0.mk (show w6.heap.size ≤ (w6.alloc (.cells #[.int .i32 lo, .int .i32 hi] 86)).heap.size from by simp)
              generalize w6.alloc (.cells #[.int .i32 lo, .int .i32 hi] 86) = w7 at *
              clear HW7
              obtain ⟨x0, x1, x2, x3, x4, x5⟩ := nd_cell HXB7.out
              have xf := nd_frozen HXB7.out 1
              go_wp2_with (((with_reducible refine gate_builtin (b := .append) (xs := #[.tmp 52, .tmp 53]) rfl ?_); at_builtin; refine Kd.R_append_rows k86 (w0 := w7) w.heap.size rfl (.tmp 52) (.tmp 53) 71 86 (.agg #[.int .i32 0, .int .i32 0]) 8 rfl Tryd.underlying71 info86 rfl (by decide) (by omega) (.slice A acc.length cc) acc [⟨lo, hi⟩] (some ⟨w6.heap.size, 0, none⟩) 1 1 (fun q => w.heap.size ≤ q ∧ q ≠ X) (fun _ => False) rfl rfl HA7.out (Spn.rows HSP7.out).1 (fun x cs hK => by rw [k86_open hK]; exact k86_mkM _ _ _ _) (fun _ hq => hq.elim) (fun q hq => ⟨by have h1 := HS7.out.size; omega, fun e => by have h1 := blk_lt HXB7.out; omega⟩) (Below.refl _ _) HS7.out.size ?aL ?_; (case aL => have h1 := HB.out; have h2 := HLL.out; have h3 := HR.out.short; have h4 := HR.out.le; have h5 := HU2.out; omega); intro v5 w5 ho hb5 hg5 hat5; obtain ⟨A5, c5, rfl⟩ := Kd.R_slice ho; have HO := Aside0.mk ho; have HXB5 := Aside0.mk ((hg5.block X (blk_lt HXB7.out) (fun e => (HA7.out.1 X e.symm).2 rfl)).trans HXB7.out); have HB5 := Aside0.mk hb5; clear ho hb5 hg5 hat5 x0 x1 x2 x3 x4 x5 xf; obtain ⟨x0, x1, x2, x3, x4, x5⟩ := nd_cell HXB5.out; have xf := nd_frozen HXB5.out 1))
              go_roundg k1
              case measure => omega
              case rel => exact ⟨j2, false, _, A5, c5, rfl, ⟨HN.out⟩, ⟨Rd.far (Rd.grown H7.out (fun q hq hq2 => HB5.out.block q (by have h1 := HH.out.lt; have h2 := HH.out.two; omega))) HXb.out (by have h1 := HH.out.lt; have h2 := HX.out; have h3 := HH.out.two; omega) _ _⟩, ⟨(HS7.out.grown HB5.out (Nat.le_refl _)).far (by rw [HX.out]; exact Nat.le_refl _) _ _⟩, ⟨blk_put HXB5.out 1 _ (by (try simp only [List.length_append, List.length_cons, List.length_nil]); rfl)⟩, ⟨Kd.R_far HO.out (fun q hq => hq.2) _⟩, ⟨by rw [List.length_append]; have h1 := HB.out; have h2 := HLL.out; have h3 := HU2.out; simp only [List.length_singleton]; omega, by have h1 := HB.out; have h2 := HLL.out; have h3 := HU2.out; omega⟩⟩
          · have HP1 := Aside0.mk hp1
            clear hp1
            rcases hB with ⟨a1, e1, hm, rfl⟩ | ⟨l, j, hm, hN⟩ | ⟨l, j, hm, hp2, rfl⟩ | ⟨l, j, c2, hm, hp2, h45, hN⟩ | ⟨l, j, a1, e1, hm, hp2, hu, rfl⟩ | ⟨l, j, hi, j2, hm, hp2, hu, hN⟩
            · have HM := Aside0.mk hm
              clear hm
              go_wp2_with (first
                | (go_at_call 36; (with_reducible refine (peek_ok HR.out HP1.out).mono ?_); rintro e w1 ⟨rfl, hb⟩; have H1 := Aside0.mk (HR.out.below hb); have HS1 := Aside0.mk (HS.out.trans (Stp.of hb)); have HXB1 := Aside0.mk ((hb.block X (blk_lt HXB.out)).trans HXB.out); have HA1 := Aside0.mk (Kd.R_below HA.out hb); clear hb)
                | (go_at_call 58; (with_reducible refine (mem_bad H1.out HM.out).mono ?_); rintro e w2 ⟨rfl, hs⟩; have HS2 := Aside0.mk (HS1.out.trans hs); clear hs))
              exact ⟨rfl, rfl, HS2.out⟩
            · have HM := Aside0.mk hm
              have HLL := Aside0.mk (mem_len hm)
              clear hm
              have HN := Aside0.mk hN
              clear hN
              go_wp2_with (first
                | (go_at_call 36; (with_reducible refine (peek_ok HR.out HP1.out).mono ?_); rintro e w1 ⟨rfl, hb⟩; have H1 := Aside0.mk (HR.out.below hb); have HS1 := Aside0.mk (HS.out.trans (Stp.of hb)); have HXB1 := Aside0.mk ((hb.block X (blk_lt HXB.out)).trans HXB.out); have HA1 := Aside0.mk (Kd.R_below HA.out hb); clear hb)
                | (go_at_call 58; (with_reducible refine (mem_ok H1.out HM.out).mono ?_); rintro e w2 ⟨v, rfl, h2, hs, hSp⟩; obtain ⟨g4, c4, rfl, _⟩ := id hSp; have H2 := Aside0.mk h2; have HSP := Aside0.mk hSp; have HS2 := Aside0.mk (HS1.out.trans hs); have HXB2 := Aside0.mk ((hs.block X (blk_lt HXB1.out) HXb.out).trans HXB1.out); have HA2 := Aside0.mk (Kd.R_step HA1.out (fun q hq hlt => hs.block q hlt (by have h1 := HH.out.lt; have h2 := hq.1; omega))); clear h2 hs hSp; obtain ⟨x0, x1, x2, x3, x4, x5⟩ := nd_cell HXB2.out; have xf := nd_frozen HXB2.out 1; have HBW := Aside0.mk H1.out.lt)
                | ((with_reducible refine gate_builtin (b := .append) (xs := #[.tmp 52, .tmp 53]) rfl ?_); at_builtin; refine Kd.R_append_rows k86 (w0 := w2) w.heap.size rfl (.tmp 52) (.tmp 53) 71 86 (.agg #[.int .i32 0, .int .i32 0]) 8 rfl Tryd.underlying71 info86 rfl (by decide) (by omega) (.slice A acc.length cc) acc l (some ⟨g4, 0, none⟩) l.length c4 (fun q => w.heap.size ≤ q ∧ q ≠ X) (fun _ => False) rfl rfl HA2.out (Spn.rows HSP.out).1 (fun x cs hK => by rw [k86_open hK]; exact k86_mkM _ _ _ _) (fun _ hq => hq.elim) (fun q hq => ⟨Nat.le_trans HS2.out.size hq, fun e => by have := blk_lt HXB2.out; omega⟩) (Below.refl _ _) HS2.out.size ?aL ?_; (case aL => have h1 := HB.out; have h2 := HLL.out; have h3 := HR.out.short; have h4 := HR.out.le; omega); intro v5 w5 ho hb5 hg5 hat5; obtain ⟨A5, c5, rfl⟩ := Kd.R_slice ho; have HO := Aside0.mk ho; have HXB5 := Aside0.mk ((hg5.block X (blk_lt HXB2.out) (fun e => (HA2.out.1 X e.symm).2 rfl)).trans HXB2.out); have HB5 := Aside0.mk hb5; clear ho hb5 hg5 hat5 x0 x1 x2 x3 x4 x5 xf; obtain ⟨x0, x1, x2, x3, x4, x5⟩ := nd_cell HXB5.out; have xf := nd_frozen HXB5.out 1))
              go_roundg k1
              case measure => omega
              case rel => exact ⟨j, false, _, A5, c5, rfl, ⟨HN.out⟩, ⟨Rd.far (Rd.grown H2.out (fun q hq hq2 => HB5.out.block q (by have h1 := HH.out.lt; have h2 := HH.out.two; omega))) HXb.out (by have h1 := HH.out.lt; have h2 := HX.out; have h3 := HH.out.two; omega) _ _⟩, ⟨(HS2.out.grown HB5.out (Nat.le_refl _)).far (by rw [HX.out]; exact Nat.le_refl _) _ _⟩, ⟨blk_put HXB5.out 1 _ (by (try simp only [List.length_append, List.length_cons, List.length_nil]); rfl)⟩, ⟨Kd.R_far HO.out (fun q hq => hq.2) _⟩, ⟨by rw [List.length_append]; have h1 := HB.out; have h2 := HLL.out; omega, by have h1 := HB.out; have h2 := HLL.out; omega⟩⟩
            · have HM := Aside0.mk hm
              have HLL := Aside0.mk (mem_len hm)
              clear hm
              have HP2 := Aside0.mk hp2
              clear hp2
              go_wp2_with (first
                | (go_at_call 36; (with_reducible refine (peek_ok HR.out HP1.out).mono ?_); rintro e w1 ⟨rfl, hb⟩; have H1 := Aside0.mk (HR.out.below hb); have HS1 := Aside0.mk (HS.out.trans (Stp.of hb)); have HXB1 := Aside0.mk ((hb.block X (blk_lt HXB.out)).trans HXB.out); have HA1 := Aside0.mk (Kd.R_below HA.out hb); clear hb)
                | (go_at_call 58; (with_reducible refine (mem_ok H1.out HM.out).mono ?_); rintro e w2 ⟨v, rfl, h2, hs, hSp⟩; obtain ⟨g4, c4, rfl, _⟩ := id hSp; have H2 := Aside0.mk h2; have HSP := Aside0.mk hSp; have HS2 := Aside0.mk (HS1.out.trans hs); have HXB2 := Aside0.mk ((hs.block X (blk_lt HXB1.out) HXb.out).trans HXB1.out); have HA2 := Aside0.mk (Kd.R_step HA1.out (fun q hq hlt => hs.block q hlt (by have h1 := HH.out.lt; have h2 := hq.1; omega))); clear h2 hs hSp; obtain ⟨x0, x1, x2, x3, x4, x5⟩ := nd_cell HXB2.out; have xf := nd_frozen HXB2.out 1; have HBW := Aside0.mk H1.out.lt)
                | (go_at_call 36; (with_reducible refine (peek_no H2.out HP2.out).mono ?_); rintro e w3 ⟨rfl, hb⟩; have HS3 := Aside0.mk (HS2.out.trans (Stp.of hb)); clear hb))
              exact ⟨rfl, rfl, HS3.out⟩
            · have HM := Aside0.mk hm
              have HLL := Aside0.mk (mem_len hm)
              clear hm
              have HP2 := Aside0.mk hp2
              have HN := Aside0.mk hN
              clear hp2 hN
              go_wp2_with (first
                | (go_at_call 36; (with_reducible refine (peek_ok HR.out HP1.out).mono ?_); rintro e w1 ⟨rfl, hb⟩; have H1 := Aside0.mk (HR.out.below hb); have HS1 := Aside0.mk (HS.out.trans (Stp.of hb)); have HXB1 := Aside0.mk ((hb.block X (blk_lt HXB.out)).trans HXB.out); have HA1 := Aside0.mk (Kd.R_below HA.out hb); clear hb)
                | (go_at_call 58; (with_reducible refine (mem_ok H1.out HM.out).mono ?_); rintro e w2 ⟨v, rfl, h2, hs, hSp⟩; obtain ⟨g4, c4, rfl, _⟩ := id hSp; have H2 := Aside0.mk h2; have HSP := Aside0.mk hSp; have HS2 := Aside0.mk (HS1.out.trans hs); have HXB2 := Aside0.mk ((hs.block X (blk_lt HXB1.out) HXb.out).trans HXB1.out); have HA2 := Aside0.mk (Kd.R_step HA1.out (fun q hq hlt => hs.block q hlt (by have h1 := HH.out.lt; have h2 := hq.1; omega))); clear h2 hs hSp; obtain ⟨x0, x1, x2, x3, x4, x5⟩ := nd_cell HXB2.out; have xf := nd_frozen HXB2.out 1; have HBW := Aside0.mk H1.out.lt)
                | (go_at_call 36; (with_reducible refine (peek_ok H2.out HP2.out).mono ?_); rintro e w3 ⟨rfl, hb⟩; have H3 := Aside0.mk (H2.out.below hb); have HS3 := Aside0.mk (HS2.out.trans (Stp.of hb)); have HXB3 := Aside0.mk ((hb.block X (blk_lt HXB2.out)).trans HXB2.out); have HA3 := Aside0.mk (Kd.R_below HA2.out hb); have HSP3 := Aside0.mk (HSP.out.stp (Stp.of (b := b) hb) HBW.out); clear hb x0 x1 x2 x3 x4 x5 xf; obtain ⟨x0, x1, x2, x3, x4, x5⟩ := nd_cell HXB3.out; have xf := nd_frozen HXB3.out 1)
                | ((with_reducible refine gate_builtin (b := .append) (xs := #[.tmp 52, .tmp 53]) rfl ?_); at_builtin; refine Kd.R_append_rows k86 (w0 := w3) w.heap.size rfl (.tmp 52) (.tmp 53) 71 86 (.agg #[.int .i32 0, .int .i32 0]) 8 rfl Tryd.underlying71 info86 rfl (by decide) (by omega) (.slice A acc.length cc) acc l (some ⟨g4, 0, none⟩) l.length c4 (fun q => w.heap.size ≤ q ∧ q ≠ X) (fun _ => False) rfl rfl HA3.out (Spn.rows HSP3.out).1 (fun x cs hK => by rw [k86_open hK]; exact k86_mkM _ _ _ _) (fun _ hq => hq.elim) (fun q hq => ⟨Nat.le_trans HS3.out.size hq, fun e => by have := blk_lt HXB3.out; omega⟩) (Below.refl _ _) HS3.out.size ?aL ?_; (case aL => have h1 := HB.out; have h2 := HLL.out; have h3 := HR.out.short; have h4 := HR.out.le; omega); intro v5 w5 ho hb5 hg5 hat5; obtain ⟨A5, c5, rfl⟩ := Kd.R_slice ho; have HO := Aside0.mk ho; have HXB5 := Aside0.mk ((hg5.block X (blk_lt HXB3.out) (fun e => (HA3.out.1 X e.symm).2 rfl)).trans HXB3.out); have HB5 := Aside0.mk hb5; clear ho hb5 hg5 hat5 x0 x1 x2 x3 x4 x5 xf; obtain ⟨x0, x1, x2, x3, x4, x5⟩ := nd_cell HXB5.out; have xf := nd_frozen HXB5.out 1))
              go_roundg k1
              case measure => omega
              case rel => exact ⟨j, false, _, A5, c5, rfl, ⟨HN.out⟩, ⟨Rd.far (Rd.grown H3.out (fun q hq hq2 => HB5.out.block q (by have h1 := HH.out.lt; have h2 := HH.out.two; omega))) HXb.out (by have h1 := HH.out.lt; have h2 := HX.out; have h3 := HH.out.two; omega) _ _⟩, ⟨(HS3.out.grown HB5.out (Nat.le_refl _)).far (by rw [HX.out]; exact Nat.le_refl _) _ _⟩, ⟨blk_put HXB5.out 1 _ (by (try simp only [List.length_append, List.length_cons, List.length_nil]); rfl)⟩, ⟨Kd.R_far HO.out (fun q hq => hq.2) _⟩, ⟨by rw [List.length_append]; have h1 := HB.out; have h2 := HLL.out; omega, by have h1 := HB.out; have h2 := HLL.out; omega⟩⟩
            · have HM := Aside0.mk hm
              have HLL := Aside0.mk (mem_len hm)
              clear hm
              have HP2 := Aside0.mk hp2
              have HNE := Aside0.mk (mem_ne HM.out)
              have HC3 := Aside0.mk (show j + rl 45 ≤ s.size from ((peek_rune (by have h1 := HR.out.le; first | exact mem_le HR.out.le HM.out) hp2).resolve_left (by decide)).2)
              generalize hlo : (l.getD 0 z86).f0 = lo at *
              have HLO := Aside0.mk hlo
              have HU := Aside0.mk hu
              clear hp2 hu hlo
              go_wp2_with (first
                | (go_at_call 36; (with_reducible refine (peek_ok HR.out HP1.out).mono ?_); rintro e w1 ⟨rfl, hb⟩; have H1 := Aside0.mk (HR.out.below hb); have HS1 := Aside0.mk (HS.out.trans (Stp.of hb)); have HXB1 := Aside0.mk ((hb.block X (blk_lt HXB.out)).trans HXB.out); have HA1 := Aside0.mk (Kd.R_below HA.out hb); clear hb)
                | (go_at_call 58; (with_reducible refine (mem_ok H1.out HM.out).mono ?_); rintro e w2 ⟨v, rfl, h2, hs, hSp⟩; obtain ⟨g4, c4, rfl, _⟩ := id hSp; have H2 := Aside0.mk h2; have HSP := Aside0.mk hSp; have HS2 := Aside0.mk (HS1.out.trans hs); have HXB2 := Aside0.mk ((hs.block X (blk_lt HXB1.out) HXb.out).trans HXB1.out); have HA2 := Aside0.mk (Kd.R_step HA1.out (fun q hq hlt => hs.block q hlt (by have h1 := HH.out.lt; have h2 := hq.1; omega))); clear h2 hs hSp; obtain ⟨x0, x1, x2, x3, x4, x5⟩ := nd_cell HXB2.out; have xf := nd_frozen HXB2.out 1; have HBW := Aside0.mk H1.out.lt)
                | (go_at_call 36; (with_reducible refine (peek_ok H2.out HP2.out).mono ?_); rintro e w3 ⟨rfl, hb⟩; have H3 := Aside0.mk (H2.out.below hb); have HS3 := Aside0.mk (HS2.out.trans (Stp.of hb)); have HXB3 := Aside0.mk ((hb.block X (blk_lt HXB2.out)).trans HXB2.out); have HA3 := Aside0.mk (Kd.R_below HA2.out hb); have HSP3 := Aside0.mk (HSP.out.stp (Stp.of (b := b) hb) HBW.out); clear hb x0 x1 x2 x3 x4 x5 xf; obtain ⟨x0, x1, x2, x3, x4, x5⟩ := nd_cell HXB3.out; have xf := nd_frozen HXB3.out 1)
                | (go_at_call 37; (with_reducible refine (skip_calls H3.out rune45 HC3.out).mono ?_); rintro e w4 ⟨rfl, h4, hs⟩; have H4 := Aside0.mk h4; have HS4 := Aside0.mk (HS3.out.trans hs); have HXB4 := Aside0.mk ((hs.block X (blk_lt HXB3.out) HXb.out).trans HXB3.out); have HA4 := Aside0.mk (Kd.R_step HA3.out (fun q hq hlt => hs.block q hlt (by have h1 := HH.out.lt; have h2 := hq.1; omega))); have HSP4 := Aside0.mk (HSP3.out.stp hs HBW.out); clear h4 hs x0 x1 x2 x3 x4 x5 xf))
              have HGB := Aside0.mk (show g4 ≠ b from fun e => by have h1 := (Spn.addr HSP.out).1; have h2 := HBW.out; omega)
              have y0 := (Spn.at0 HSP4.out HNE.out).1
              rw [HLO.out] at y0
              have yl : 0 < l.length := List.length_pos_iff.2 HNE.out
              refine start_ (n := 13) (S := fun w' => w'.cell? ⟨g4, 0, none⟩ = some (.int .i32 lo)) (ds := []) #[false, false, false, false, false, false, false, false, false, false, false, false, false] (by kernel_rfl) rfl rfl (show w4.drew.cell? ⟨g4, 0, none⟩ = some (.int .i32 lo) from y0) (fun hHeld => ?_); refine with_tabW cls.tab11 cls.bits11 (fun HT_ HW_ => ?_)
              have H5 := Aside0.mk (H4.out.below (below_drew1 (Below.refl _ _)))
              have HS5 := Aside0.mk (HS4.out.trans (Stp.of (below_drew1 (Below.refl _ _))))
              have HXB5 := Aside0.mk (((below_drew1 (Below.refl w4.heap.size w4)).block X (blk_lt HXB4.out)).trans HXB4.out)
              have HA5 := Aside0.mk (Kd.R_below HA4.out (below_drew1 (Below.refl _ _)))
              have HG5 := Aside0.mk (show g4 < w4.drew.heap.size from Nat.lt_of_lt_of_le (Spn.addr HSP4.out).2 (below_drew1 (Below.refl w4.heap.size w4)).size)
              generalize w4.drew = W5 at *
              refine pure_ (i := 0) (N := some 36) (v := ?_) (a' := ?_) #[true, false, false, false, false, false, false, false, false, false, false, false, false] rfl rfl (any_of HT_.out (by kernel_rfl)) (fun _ _ _ h => h) (Or.inl ⟨by rfl, ?_⟩) ?_ ?_
              rotate_left
              · intro w'
                go_simp
                with_reducible rfl
              rotate_left
              · simp only [Act.put, List.setIfInBounds_toArray, List.set_cons_zero, List.set_cons_succ, i64_w, i32_w, xu32_w, xu8_w]
                rfl
              refine pure_ (i := 1) (N := some 37) (v := ?_) (a' := ?_) #[true, true, false, false, false, false, false, false, false, false, false, false, false] rfl rfl (any_of HT_.out (by kernel_rfl)) (fun _ _ _ h => h) (Or.inl ⟨by rfl, ?_⟩) ?_ ?_
              rotate_left
              · intro w'
                go_simp
                with_reducible rfl
              rotate_left
              · simp only [Act.put, List.setIfInBounds_toArray, List.set_cons_zero, List.set_cons_succ, i64_w, i32_w, xu32_w, xu8_w]
                rfl
              refine pure_ (i := 2) (N := some 38) (v := ?_) (a' := ?_) #[true, true, true, false, false, false, false, false, false, false, false, false, false] rfl rfl (any_of HT_.out (by kernel_rfl)) (fun _ _ _ h => h) (Or.inl ⟨by rfl, ?_⟩) ?_ ?_
              rotate_left
              · intro w'
                go_simp
                with_reducible rfl
              rotate_left
              · simp only [Act.put, List.setIfInBounds_toArray, List.set_cons_zero, List.set_cons_succ, i64_w, i32_w, xu32_w, xu8_w]
                rfl
              refine pure_ (i := 4) (N := some 40) (v := ?_) (a' := ?_) #[true, true, true, false, true, false, false, false, false, false, false, false, false] rfl rfl (any_of HT_.out (by kernel_rfl)) (fun _ _ _ h => h) (Or.inl ⟨by rfl, ?_⟩) ?_ ?_
              rotate_left
              · intro w'
                go_simp
                with_reducible rfl
              rotate_left
              · simp only [Act.put, List.setIfInBounds_toArray, List.set_cons_zero, List.set_cons_succ, i64_w, i32_w, xu32_w, xu8_w]
                rfl
              refine pure_ (i := 5) (N := some 41) (v := ?_) (a' := ?_) #[true, true, true, false, true, true, false, false, false, false, false, false, false] rfl rfl (any_of HT_.out (by kernel_rfl)) (fun _ _ _ h => h) (Or.inl ⟨by rfl, ?_⟩) ?_ ?_
              rotate_left
              · intro w'
                go_simp
                with_reducible rfl
              rotate_left
              · simp only [Act.put, List.setIfInBounds_toArray, List.set_cons_zero, List.set_cons_succ, i64_w, i32_w, xu32_w, xu8_w]
                rfl
              refine pure_ (i := 6) (N := some 42) (v := ?_) (a' := ?_) #[true, true, true, false, true, true, true, false, false, false, false, false, false] rfl rfl (any_of HT_.out (by kernel_rfl)) (fun _ _ _ h => h) (Or.inl ⟨by rfl, ?_⟩) ?_ ?_
              rotate_left
              · intro w'
                go_simp
                with_reducible rfl
              rotate_left
              · simp only [Act.put, List.setIfInBounds_toArray, List.set_cons_zero, List.set_cons_succ, i64_w, i32_w, xu32_w, xu8_w]
                rfl
              refine pure_ (i := 7) (N := some 43) (v := ?_) (a' := ?_) #[true, true, true, false, true, true, true, true, false, false, false, false, false] rfl rfl (any_of HT_.out (by kernel_rfl)) (fun _ _ _ h => h) (Or.inl ⟨by rfl, ?_⟩) ?_ ?_
              rotate_left
              · intro w'
                go_simp
                with_reducible rfl
              rotate_left
              · simp only [Act.put, List.setIfInBounds_toArray, List.set_cons_zero, List.set_cons_succ, i64_w, i32_w, xu32_w, xu8_w]
                rfl
              refine take_ (i := 3) (N := some 39) (v := ?_) (a' := ?_) #[true, true, true, true, true, true, true, true, false, false, false, false, false] rfl rfl (take_ofW HT_.out HW_.out (by kernel_rfl)) (fun _ _ _ h => h) (Or.inl ⟨by rfl, ?_⟩) hHeld ?_ ?_
              rotate_left
              · rintro w' s0
                go_simp
                with_reducible rfl
              rotate_left
              · simp only [Act.put, List.setIfInBounds_toArray, List.set_cons_zero, List.set_cons_succ, i64_w, i32_w, xu32_w, xu8_w]
                rfl
              refine take_ (i := 8) (N := some 44) (v := ?_) (a' := ?_) #[true, true, true, true, true, true, true, true, true, false, false, false, false] rfl rfl (take_ofW HT_.out HW_.out (by kernel_rfl)) (fun _ _ _ h => h) (Or.inl ⟨by rfl, ?_⟩) hHeld ?_ ?_
              rotate_left
              · rintro w' s0
                go_simp
                with_reducible rfl
              rotate_left
              · simp only [Act.put, List.setIfInBounds_toArray, List.set_cons_zero, List.set_cons_succ, i64_w, i32_w, xu32_w, xu8_w]
                rfl
              refine one_ (i := 9) (N := some 45) #[true, true, true, true, true, true, true, true, true, true, false, false, false] rfl rfl (one_of HT_.out (by kernel_rfl)) (by decide) (fun K hK => ?_)
              refine goesP_ Tryd.func59 (by kernel_rfl) rfl #[.pointer (some ⟨b, 0, none⟩), .int .i32 lo] (by rfl) rfl rfl (by (try simp only [List.map_toArray, List.map_cons, List.map_nil]); first | done | rfl) ?_
              with_reducible refine (up_bad H5.out HU.out).mono ?_
              rintro e w6 ⟨rfl, hs⟩
              exact ⟨_, rfl, rfl, rfl, HS5.out.trans hs⟩
            · have HM := Aside0.mk hm
              have HLL := Aside0.mk (mem_len hm)
              clear hm
              have HP2 := Aside0.mk hp2
              have HNE := Aside0.mk (mem_ne HM.out)
              have HC3 := Aside0.mk (show j + rl 45 ≤ s.size from ((peek_rune (by have h1 := HR.out.le; first | exact mem_le HR.out.le HM.out) hp2).resolve_left (by decide)).2)
              generalize hlo : (l.getD 0 z86).f0 = lo at *
              have HLO := Aside0.mk hlo
              have HU := Aside0.mk hu
              clear hp2 hu hlo
              have HN := Aside0.mk hN
              have HU2 := Aside0.mk (up_len HU.out)
              clear hN
              go_wp2_with (first
                | (go_at_call 36; (with_reducible refine (peek_ok HR.out HP1.out).mono ?_); rintro e w1 ⟨rfl, hb⟩; have H1 := Aside0.mk (HR.out.below hb); have HS1 := Aside0.mk (HS.out.trans (Stp.of hb)); have HXB1 := Aside0.mk ((hb.block X (blk_lt HXB.out)).trans HXB.out); have HA1 := Aside0.mk (Kd.R_below HA.out hb); clear hb)
                | (go_at_call 58; (with_reducible refine (mem_ok H1.out HM.out).mono ?_); rintro e w2 ⟨v, rfl, h2, hs, hSp⟩; obtain ⟨g4, c4, rfl, _⟩ := id hSp; have H2 := Aside0.mk h2; have HSP := Aside0.mk hSp; have HS2 := Aside0.mk (HS1.out.trans hs); have HXB2 := Aside0.mk ((hs.block X (blk_lt HXB1.out) HXb.out).trans HXB1.out); have HA2 := Aside0.mk (Kd.R_step HA1.out (fun q hq hlt => hs.block q hlt (by have h1 := HH.out.lt; have h2 := hq.1; omega))); clear h2 hs hSp; obtain ⟨x0, x1, x2, x3, x4, x5⟩ := nd_cell HXB2.out; have xf := nd_frozen HXB2.out 1; have HBW := Aside0.mk H1.out.lt)
                | (go_at_call 36; (with_reducible refine (peek_ok H2.out HP2.out).mono ?_); rintro e w3 ⟨rfl, hb⟩; have H3 := Aside0.mk (H2.out.below hb); have HS3 := Aside0.mk (HS2.out.trans (Stp.of hb)); have HXB3 := Aside0.mk ((hb.block X (blk_lt HXB2.out)).trans HXB2.out); have HA3 := Aside0.mk (Kd.R_below HA2.out hb); have HSP3 := Aside0.mk (HSP.out.stp (Stp.of (b := b) hb) HBW.out); clear hb x0 x1 x2 x3 x4 x5 xf; obtain ⟨x0, x1, x2, x3, x4, x5⟩ := nd_cell HXB3.out; have xf := nd_frozen HXB3.out 1)
                | (go_at_call 37; (with_reducible refine (skip_calls H3.out rune45 HC3.out).mono ?_); rintro e w4 ⟨rfl, h4, hs⟩; have H4 := Aside0.mk h4; have HS4 := Aside0.mk (HS3.out.trans hs); have HXB4 := Aside0.mk ((hs.block X (blk_lt HXB3.out) HXb.out).trans HXB3.out); have HA4 := Aside0.mk (Kd.R_step HA3.out (fun q hq hlt => hs.block q hlt (by have h1 := HH.out.lt; have h2 := hq.1; omega))); have HSP4 := Aside0.mk (HSP3.out.stp hs HBW.out); clear h4 hs x0 x1 x2 x3 x4 x5 xf))
              have HGB := Aside0.mk (show g4 ≠ b from fun e => by have h1 := (Spn.addr HSP.out).1; have h2 := HBW.out; omega)
              have y0 := (Spn.at0 HSP4.out HNE.out).1
              rw [HLO.out] at y0
              have yl : 0 < l.length := List.length_pos_iff.2 HNE.out
              refine start_ (n := 13) (S := fun w' => w'.cell? ⟨g4, 0, none⟩ = some (.int .i32 lo)) (ds := []) #[false, false, false, false, false, false, false, false, false, false, false, false, false] (by kernel_rfl) rfl rfl (show w4.drew.cell? ⟨g4, 0, none⟩ = some (.int .i32 lo) from y0) (fun hHeld => ?_); refine with_tabW cls.tab11 cls.bits11 (fun HT_ HW_ => ?_)
              have H5 := Aside0.mk (H4.out.below (below_drew1 (Below.refl _ _)))
              have HS5 := Aside0.mk (HS4.out.trans (Stp.of (below_drew1 (Below.refl _ _))))
              have HXB5 := Aside0.mk (((below_drew1 (Below.refl w4.heap.size w4)).block X (blk_lt HXB4.out)).trans HXB4.out)
              have HA5 := Aside0.mk (Kd.R_below HA4.out (below_drew1 (Below.refl _ _)))
              have HG5 := Aside0.mk (show g4 < w4.drew.heap.size from Nat.lt_of_lt_of_le (Spn.addr HSP4.out).2 (below_drew1 (Below.refl w4.heap.size w4)).size)
              generalize w4.drew = W5 at *
              refine pure_ (i := 0) (N := some 36) (v := ?_) (a' := ?_) #[true, false, false, false, false, false, false, false, false, false, false, false, false] rfl rfl (any_of HT_.out (by kernel_rfl)) (fun _ _ _ h => h) (Or.inl ⟨by rfl, ?_⟩) ?_ ?_
              rotate_left
              · intro w'
                go_simp
                with_reducible rfl
              rotate_left
              · simp only [Act.put, List.setIfInBounds_toArray, List.set_cons_zero, List.set_cons_succ, i64_w, i32_w, xu32_w, xu8_w]
                rfl
              refine pure_ (i := 1) (N := some 37) (v := ?_) (a' := ?_) #[true, true, false, false, false, false, false, false, false, false, false, false, false] rfl rfl (any_of HT_.out (by kernel_rfl)) (fun _ _ _ h => h) (Or.inl ⟨by rfl, ?_⟩) ?_ ?_
              rotate_left
              · intro w'
                go_simp
                with_reducible rfl
              rotate_left
              · simp only [Act.put, List.setIfInBounds_toArray, List.set_cons_zero, List.set_cons_succ, i64_w, i32_w, xu32_w, xu8_w]
                rfl
              refine pure_ (i := 2) (N := some 38) (v := ?_) (a' := ?_) #[true, true, true, false, false, false, false, false, false, false, false, false, false] rfl rfl (any_of HT_.out (by kernel_rfl)) (fun _ _ _ h => h) (Or.inl ⟨by rfl, ?_⟩) ?_ ?_
              rotate_left
              · intro w'
                go_simp
                with_reducible rfl
              rotate_left
              · simp only [Act.put, List.setIfInBounds_toArray, List.set_cons_zero, List.set_cons_succ, i64_w, i32_w, xu32_w, xu8_w]
                rfl
              refine pure_ (i := 4) (N := some 40) (v := ?_) (a' := ?_) #[true, true, true, false, true, false, false, false, false, false, false, false, false] rfl rfl (any_of HT_.out (by kernel_rfl)) (fun _ _ _ h => h) (Or.inl ⟨by rfl, ?_⟩) ?_ ?_
              rotate_left
              · intro w'
                go_simp
                with_reducible rfl
              rotate_left
              · simp only [Act.put, List.setIfInBounds_toArray, List.set_cons_zero, List.set_cons_succ, i64_w, i32_w, xu32_w, xu8_w]
                rfl
              refine pure_ (i := 5) (N := some 41) (v := ?_) (a' := ?_) #[true, true, true, false, true, true, false, false, false, false, false, false, false] rfl rfl (any_of HT_.out (by kernel_rfl)) (fun _ _ _ h => h) (Or.inl ⟨by rfl, ?_⟩) ?_ ?_
              rotate_left
              · intro w'
                go_simp
                with_reducible rfl
              rotate_left
              · simp only [Act.put, List.setIfInBounds_toArray, List.set_cons_zero, List.set_cons_succ, i64_w, i32_w, xu32_w, xu8_w]
                rfl
              refine pure_ (i := 6) (N := some 42) (v := ?_) (a' := ?_) #[true, true, true, false, true, true, true, false, false, false, false, false, false] rfl rfl (any_of HT_.out (by kernel_rfl)) (fun _ _ _ h => h) (Or.inl ⟨by rfl, ?_⟩) ?_ ?_
              rotate_left
              · intro w'
                go_simp
                with_reducible rfl
              rotate_left
              · simp only [Act.put, List.setIfInBounds_toArray, List.set_cons_zero, List.set_cons_succ, i64_w, i32_w, xu32_w, xu8_w]
                rfl
              refine pure_ (i := 7) (N := some 43) (v := ?_) (a' := ?_) #[true, true, true, false, true, true, true, true, false, false, false, false, false] rfl rfl (any_of HT_.out (by kernel_rfl)) (fun _ _ _ h => h) (Or.inl ⟨by rfl, ?_⟩) ?_ ?_
              rotate_left
              · intro w'
                go_simp
                with_reducible rfl
              rotate_left
              · simp only [Act.put, List.setIfInBounds_toArray, List.set_cons_zero, List.set_cons_succ, i64_w, i32_w, xu32_w, xu8_w]
                rfl
              refine take_ (i := 3) (N := some 39) (v := ?_) (a' := ?_) #[true, true, true, true, true, true, true, true, false, false, false, false, false] rfl rfl (take_ofW HT_.out HW_.out (by kernel_rfl)) (fun _ _ _ h => h) (Or.inl ⟨by rfl, ?_⟩) hHeld ?_ ?_
              rotate_left
              · rintro w' s0
                go_simp
                with_reducible rfl
              rotate_left
              · simp only [Act.put, List.setIfInBounds_toArray, List.set_cons_zero, List.set_cons_succ, i64_w, i32_w, xu32_w, xu8_w]
                rfl
              refine take_ (i := 8) (N := some 44) (v := ?_) (a' := ?_) #[true, true, true, true, true, true, true, true, true, false, false, false, false] rfl rfl (take_ofW HT_.out HW_.out (by kernel_rfl)) (fun _ _ _ h => h) (Or.inl ⟨by rfl, ?_⟩) hHeld ?_ ?_
              rotate_left
              · rintro w' s0
                go_simp
                with_reducible rfl
              rotate_left
              · simp only [Act.put, List.setIfInBounds_toArray, List.set_cons_zero, List.set_cons_succ, i64_w, i32_w, xu32_w, xu8_w]
                rfl
              refine one_ (i := 9) (N := some 45) #[true, true, true, true, true, true, true, true, true, true, false, false, false] rfl rfl (one_of HT_.out (by kernel_rfl)) (by decide) (fun K hK => ?_)
              refine goes_ Tryd.func59 (by kernel_rfl) rfl #[.pointer (some ⟨b, 0, none⟩), .int .i32 lo] (by rfl) rfl rfl (by (try simp only [List.map_toArray, List.map_cons, List.map_nil]); first | done | rfl) ?_
              with_reducible refine (up_ok H5.out HU.out).mono ?_
              rintro e w6 ⟨rfl, h6, hs⟩
              refine ⟨_, rfl, ?_⟩
              have H6 := Aside0.mk h6
              have HS6 := Aside0.mk (HS5.out.trans hs)
              have HXB6 := Aside0.mk ((hs.block X (blk_lt HXB5.out) HXb.out).trans HXB5.out)
              have HA6 := Aside0.mk (Kd.R_step HA5.out (fun q hq hlt => hs.block q hlt (by have h1 := HH.out.lt; have h2 := hq.1; omega)))
              have hg6 : w6.cell? ⟨g4, 0, none⟩ = some (.int .i32 lo) := cell_keep hHeld (hs.block g4 HG5.out HGB.out)
              clear h6 hs
              refine hK.out _ _ hg6 (fun hHeld => ?_)
              clear hK K
              refine norm_ (a' := ?_) ?_ ?_
              rotate_left
              · show Act.put _ (some 45) _ = _
                simp only [Act.put, List.setIfInBounds_toArray, List.set_cons_zero, List.set_cons_succ, i64_w, i32_w, xu32_w, xu8_w]
                rfl
              refine pure_ (i := 10) (N := some 46) (v := ?_) (a' := ?_) #[true, true, true, true, true, true, true, true, true, true, true, false, false] rfl rfl (any_of HT_.out (by kernel_rfl)) (fun _ _ _ h => h) (Or.inl ⟨by rfl, ?_⟩) ?_ ?_
              rotate_left
              · intro w'
                go_simp
                with_reducible rfl
              rotate_left
              · simp only [Act.put, List.setIfInBounds_toArray, List.set_cons_zero, List.set_cons_succ, i64_w, i32_w, xu32_w, xu8_w]
                rfl
              refine one_ (i := 11) (N := some 47) #[true, true, true, true, true, true, true, true, true, true, true, true, false] rfl rfl (one_of HT_.out (by kernel_rfl)) (by decide) (fun K hK => ?_)
              refine value_ (v := .slice (some ⟨w6.heap.size, 0, none⟩) 1 1) (w1 := w6.alloc (.cells #[.int .i32 lo, .int .i32 hi] 86)) (by rfl) rfl (by first | (go_simp; done) | (go_simp; rfl)) ?_
              refine hK.out _ _ (cell_keep hHeld (Below.heap_alloc w6 _ g4 (cell_lt hHeld))) (fun hHeld => ?_)
              clear hK K
              refine norm_ (a' := ?_) ?_ ?_
              rotate_left
              · show Act.put _ (some 47) _ = _
                simp only [Act.put, List.setIfInBounds_toArray, List.set_cons_zero, List.set_cons_succ, i64_w, i32_w, xu32_w, xu8_w]
                rfl
              refine pure_ (i := 12) (N := some 5) (v := ?_) (a' := ?_) #[true, true, true, true, true, true, true, true, true, true, true, true, true] rfl rfl (any_of HT_.out (by kernel_rfl)) (fun _ _ _ h => h) (Or.inl ⟨by rfl, ?_⟩) ?_ ?_
              rotate_left
              · intro w'
                go_simp
                with_reducible rfl
              rotate_left
              · simp only [Act.put, List.setIfInBounds_toArray, List.set_cons_zero, List.set_cons_succ, i64_w, i32_w, xu32_w, xu8_w]
                rfl
              refine done_ (done_of HT_.out (by kernel_rfl)) ?_
              have HW7 := Aside0.mk (rfl : w6.alloc (.cells #[.int .i32 lo, .int .i32 hi] 86) = w6.alloc (.cells #[.int .i32 lo, .int .i32 hi] 86))
              have H7 := Aside0.mk (H6.out.below (below_alloc (Below.refl _ _) (.cells #[.int .i32 lo, .int .i32 hi] 86)))
              have HS7 := Aside0.mk (HS6.out.trans (Stp.of (below_alloc (Below.refl _ _) (.cells #[.int .i32 lo, .int .i32 hi] 86))))
              have HXB7 := Aside0.mk (blk_alloc HXB6.out (.cells #[.int .i32 lo, .int .i32 hi] 86))
              have HA7 := Aside0.mk (Kd.R_alloc HA6.out (.cells #[.int .i32 lo, .int .i32 hi] 86))
              have HSP7 := Aside0.mk (Spn.mk1' (w := w6) (lo := lo) (hi := hi) (Nat.le_refl _) (blk_new w6 (.cells #[.int .i32 lo, .int .i32 hi] 86)))
              have HW6 := Aside0.mk (show w6.heap.size ≤ (w6.alloc (.cells #[.int .i32 lo, .int .i32 hi] 86)).heap.size from by simp)
              generalize w6.alloc (.cells #[.int .i32 lo, .int .i32 hi] 86) = w7 at *
              clear HW7
              obtain ⟨x0, x1, x2, x3, x4, x5⟩ := nd_cell HXB7.out
              have xf := nd_frozen HXB7.out 1
              go_wp2_with (((with_reducible refine gate_builtin (b := .append) (xs := #[.tmp 52, .tmp 53]) rfl ?_); at_builtin; refine Kd.R_append_rows k86 (w0 := w7) w.heap.size rfl (.tmp 52) (.tmp 53) 71 86 (.agg #[.int .i32 0, .int .i32 0]) 8 rfl Tryd.underlying71 info86 rfl (by decide) (by omega) (.slice A acc.length cc) acc [⟨lo, hi⟩] (some ⟨w6.heap.size, 0, none⟩) 1 1 (fun q => w.heap.size ≤ q ∧ q ≠ X) (fun _ => False) rfl rfl HA7.out (Spn.rows HSP7.out).1 (fun x cs hK => by rw [k86_open hK]; exact k86_mkM _ _ _ _) (fun _ hq => hq.elim) (fun q hq => ⟨by have h1 := HS7.out.size; omega, fun e => by have h1 := blk_lt HXB7.out; omega⟩) (Below.refl _ _) HS7.out.size ?aL ?_; (case aL => have h1 := HB.out; have h2 := HLL.out; have h3 := HR.out.short; have h4 := HR.out.le; have h5 := HU2.out; omega); intro v5 w5 ho hb5 hg5 hat5; obtain ⟨A5, c5, rfl⟩ := Kd.R_slice ho; have HO := Aside0.mk ho; have HXB5 := Aside0.mk ((hg5.block X (blk_lt HXB7.out) (fun e => (HA7.out.1 X e.symm).2 rfl)).trans HXB7.out); have HB5 := Aside0.mk hb5; clear ho hb5 hg5 hat5 x0 x1 x2 x3 x4 x5 xf; obtain ⟨x0, x1, x2, x3, x4, x5⟩ := nd_cell HXB5.out; have xf := nd_frozen HXB5.out 1))
              go_roundg k1
              case measure => omega
              case rel => exact ⟨j2, false, _, A5, c5, rfl, ⟨HN.out⟩, ⟨Rd.far (Rd.grown H7.out (fun q hq hq2 => HB5.out.block q (by have h1 := HH.out.lt; have h2 := HH.out.two; omega))) HXb.out (by have h1 := HH.out.lt; have h2 := HX.out; have h3 := HH.out.two; omega) _ _⟩, ⟨(HS7.out.grown HB5.out (Nat.le_refl _)).far (by rw [HX.out]; exact Nat.le_refl _) _ _⟩, ⟨blk_put HXB5.out 1 _ (by (try simp only [List.length_append, List.length_cons, List.length_nil]); rfl)⟩, ⟨Kd.R_far HO.out (fun q hq => hq.2) _⟩, ⟨by rw [List.length_append]; have h1 := HB.out; have h2 := HLL.out; have h3 := HU2.out; simp only [List.length_singleton]; omega, by have h1 := HB.out; have h2 := HLL.out; have h3 := HU2.out; omega⟩⟩
          · have HP1 := Aside0.mk hp1
            clear hp1
            go_wp2_with (go_at_call 36; (with_reducible refine (peek_no HR.out HP1.out).mono ?_); rintro e w1 ⟨rfl, hb⟩; have HS1 := Aside0.mk (HS.out.trans (Stp.of hb)); clear hb)
            exact ⟨rfl, rfl, HS1.out⟩
          · have HP1 := Aside0.mk hp1
            have HC1 := Aside0.mk (show i2 + rl 93 ≤ s.size from ((peek_rune HR.out.le hp1).resolve_left (by decide)).2)
            clear hp1
            go_wp2_with (first
              | (go_at_call 36; (with_reducible refine (peek_ok HR.out HP1.out).mono ?_); rintro e w1 ⟨rfl, hb⟩; have H1 := Aside0.mk (HR.out.below hb); have HS1 := Aside0.mk (HS.out.trans (Stp.of hb)); have HXB1 := Aside0.mk ((hb.block X (blk_lt HXB.out)).trans HXB.out); have HA1 := Aside0.mk (Kd.R_below HA.out hb); clear hb)
              | (go_at_call 37; (with_reducible refine (skip_calls H1.out rune93 HC1.out).mono ?_); rintro e w2 ⟨rfl, h2, hs⟩; have H2 := Aside0.mk h2; have HS2 := Aside0.mk (HS1.out.trans hs); have HXB2 := Aside0.mk ((hs.block X (blk_lt HXB1.out) HXb.out).trans HXB1.out); have HA2 := Aside0.mk (Kd.R_step HA1.out (fun q hq hlt => hs.block q hlt (by have h1 := HH.out.lt; have h2 := hq.1; omega))); clear hs; obtain ⟨c0, c1, c2, c3⟩ := h2.cell; have f3 := h2.frozen 3; clear h2))
            go_ret
            have hW : wrap64 ((sz : Int) + 1) = ((sz + 1 : Nat) : Int) := by have h1 := HB.out; have h2 := HR.out.short; have h3 := HR.out.le; unfold wrap64; omega
            exact ⟨X, rfl, Rd.setz H2.out hW, HS2.out.trans (Stp.set 3 _), nd_one (by rw [HX.out]; exact Nat.le_refl _) ((Below.heap_setCell _ _ _ X (fun e => HXb.out e)).trans HXB2.out) (Kd.R_mono (Kd.R_far HA2.out (fun q hq => fun e => by have h1 := HH.out.lt; have h2 := hq.1; have e' : q = b := e; omega) _) (fun q hq => hq.1))⟩
end Go.Proofs.YtmfpikhmeacnbaaDoor.X
