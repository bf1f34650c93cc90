import Derived.Test.YtmfpikhmeacnbaaDoorXH
/- Patterns: RexValues (mkX24.py). -/
namespace Go.Proofs.YtmfpikhmeacnbaaDoor.X
open Go.RowKit Go.Proofs.YtmfpikhmeacnbaaDoor.Q Go.Proofs.YtmfpikhmeacnbaaDoorW.PrintWords Go.Proofs.YtmfpikhmeacnbaaDoorW.PrintLast Go.Proofs.YtmfpikhmeacnbaaDoorW.PrintMore
set_option linter.unusedVariables false
set_option linter.unusedSimpArgs false
/-- A rune by itself. -/
def oneP (c : Int) : Pt := .one [⟨c, c⟩] false true
theorem has_one (c d : Int) : hasF [⟨c, c⟩] false d = decide (d = c) := by
  unfold hasF
  simp only [List.any_cons, List.any_nil, Bool.or_false]
  by_cases e : d = c
  · subst e; simp
  · rw [decide_eq_false e]
    by_cases h1 : d ≥ c
    · rw [decide_eq_false (show ¬ d ≤ c by omega)]; simp
    · rw [decide_eq_false h1]; simp
theorem Lg_one (c : Int) (u : List Int) : Lg (oneP c) u ↔ u = [c] := by
  show (∃ d, u = [d] ∧ hasF [⟨c, c⟩] false d = true) ↔ _
  constructor
  · rintro ⟨d, rfl, h⟩
    rw [has_one, decide_eq_true_eq] at h
    rw [h]
  · rintro rfl
    exact ⟨c, rfl, by rw [has_one]; exact decide_eq_true rfl⟩
theorem many_plain : ∀ (p : Pt), p.WF → p.kind = 1 → ∀ (cs : List Int), p.kids = cs.map oneP → ∀ u, Lg p u ↔ u = cs
  | .one _ _ _, _, h, _, _, _ => by simp [Pt.kind] at h
  | .eps, _, _, cs, hk, u => by
    have : cs = [] := by simpa [Pt.kids] using hk.symm
    subst this
    exact Iff.rfl
  | .cat q x, hw, _, cs, hk, u => by
    have hk' : q.kids ++ [x] = cs.map oneP := hk
    obtain ⟨cs', l2, rfl, h1, h2⟩ := List.map_eq_append_iff.1 hk'.symm
    obtain ⟨c, rfl, h3⟩ : ∃ c, l2 = [c] ∧ oneP c = x := by
      cases l2 with
      | nil => cases h2
      | cons c r =>
        cases r with
        | nil => exact ⟨c, rfl, by simpa using h2⟩
        | cons _ _ => simp at h2
    have ih := many_plain q hw.2.1 hw.1 cs' h1.symm
    constructor
    · rintro ⟨a, b, rfl, ha, hb⟩
      rw [(ih a).1 ha]
      rw [← h3, Lg_one] at hb
      rw [hb]
    · rintro rfl
      exact ⟨cs', [c], rfl, (ih cs').2 rfl, by rw [← h3, Lg_one]⟩
  | .alt1 _, _, h, _, _, _ => by simp [Pt.kind] at h
  | .alt _ _, _, h, _, _, _ => by simp [Pt.kind] at h
  | .again _ _, _, h, _, _, _ => by simp [Pt.kind] at h
theorem valK_runes : ∀ (ks : List Pt) (acc v : ByteArray), (∀ x ∈ ks, x.WF) → valK ks acc = some v → ∃ cs : List Int, ks = cs.map oneP ∧ (∀ c ∈ cs, Rune c) ∧ v.data.toList = acc.data.toList ++ encL cs
  | [], acc, v, _, h => ⟨[], rfl, fun _ h => (by cases h), by rw [show v = acc from (Option.some.inj h).symm]; simp [encL]⟩
  | x :: r, acc, v, hw, h => by
    rw [valK] at h
    split at h
    · rename_i hx
      obtain ⟨l, b, pl, rfl⟩ := one_of_kind hx.1
      have hpl : pl = true := hx.2
      subst hpl
      obtain ⟨hb, c, hl, hc⟩ := hw _ List.mem_cons_self rfl
      subst hb hl
      obtain ⟨cs, h1, h2, h3⟩ := valK_runes r _ v (fun y hy => hw y (List.mem_cons_of_mem _ hy)) h
      refine ⟨c :: cs, by rw [h1]; rfl, fun d hd => ?_, ?_⟩
      · rcases List.mem_cons.1 hd with rfl | hd
        · exact hc
        · exact h2 d hd
      · rw [h3]
        show (acc ++ Utf8.encode c).data.toList ++ encL cs = acc.data.toList ++ (encB c ++ encL cs)
        rw [ByteArray.data_append, Array.toList_append, List.append_assoc]
        rfl
    · cases h
theorem valsK_snoc (x : Pt) : ∀ (ks : List Pt) (out : List ByteArray), valsK (ks ++ [x]) out = (valsK ks out).bind fun o => valsK [x] o
  | [], out => rfl
  | y :: r, out => by
    rw [List.cons_append, valsK, valsK]
    cases valK y.kids ⟨#[]⟩ with
    | none => rfl
    | some s => exact valsK_snoc x r _
/-- What values are. -/
structure ValOk (p : Pt) (L : List ByteArray) : Prop where
  lg : ∀ u, Lg p u ↔ ∃ v ∈ L, u = runesF v
  ne : L ≠ []
  enc : ∀ v ∈ L, encL (runesF v) = v.data.toList ∧ v.size ≤ 4 * p.sz
theorem encB_le (c : Int) : (encB c).length ≤ 4 := encode_size_le c
theorem encL_le : ∀ cs : List Int, (encL cs).length ≤ 4 * cs.length
  | [] => Nat.le_refl _
  | c :: cs => by
    have h1 := encL_le cs
    have h2 := encB_le c
    rw [show encL (c :: cs) = encB c ++ encL cs from rfl, List.length_append, List.length_cons]
    omega
theorem branch_val {x : Pt} (hw : x.WF) (hk : x.kind = 1) {v : ByteArray} (h : valK x.kids ⟨#[]⟩ = some v) : (∀ u, Lg x u ↔ u = runesF v) ∧ encL (runesF v) = v.data.toList ∧ v.size ≤ 4 * x.sz := by
  obtain ⟨cs, h1, h2, h3⟩ := valK_runes x.kids _ v (kids_wf x hw) h
  have h4 : v.data.toList = encL cs := by rw [h3]; rfl
  have h5 := runes_enc h2 h4
  refine ⟨fun u => by rw [h5]; exact many_plain x hw hk cs h1 u, by rw [h5, h4], ?_⟩
  have h6 : v.size = (encL cs).length := by rw [← h4]; rfl
  have h7 := encL_le cs
  have h8 := kids_le x
  rw [h1, List.length_map] at h8
  omega
theorem among_mem {l : List ByteArray} {s : ByteArray} : among l s = true ↔ s ∈ l := by
  unfold among
  rw [List.any_eq_true]
  constructor
  · rintro ⟨y, hy, h⟩
    have h := of_decide_eq_true h
    rw [toList_data, toList_data] at h
    rw [ba_ext h]; exact hy
  · intro h
    exact ⟨s, h, decide_eq_true rfl⟩
theorem kids_kind (P : Pt) : True := trivial
/-- Branches are lists of pieces. -/
def Pt.Br : Pt → Prop
  | .alt1 p => p.kind = 1
  | .alt q p => q.Br ∧ p.kind = 1
  | _ => True
theorem br_ok {s : ByteArray} : ∀ k, (∀ {d i p m j}, paF k s d i = some (.ok (p, m) j) → p.Br) ∧ (∀ {d i acc n p m j}, acc.Br → altF k s d i acc n = some (.ok (p, m) j) → p.Br)
  | 0 => ⟨fun h => by simp [paF] at h, fun _ h => by simp [altF] at h⟩
  | k + 1 => by
    obtain ⟨hp, hl⟩ := br_ok (s := s) k
    refine ⟨fun h => ?_, fun ha h => ?_⟩
    · rcases paF_head h with ⟨a, e, _, h⟩ | ⟨p, m, j, hq, h⟩
      · cases h
      · exact hl (acc := .alt1 p) ((wf_ok k).2.1 (acc := .eps) rfl trivial hq).1 h
    · rcases altF_head h with ⟨_, h⟩ | ⟨c, _, _, h⟩ | ⟨_, a, e, _, h⟩ | ⟨_, p, m, j, hq, h⟩
      · cases h
      · injection h with h1 h2
        injection h1 with h1 h3
        rw [h1]; exact ha
      · cases h
      · exact hl (acc := .alt _ p) ⟨ha, ((wf_ok k).2.1 (acc := .eps) rfl trivial hq).1⟩ h
theorem parF_br {k : Nat} {s : ByteArray} {p : Pt} {m j : Nat} (h : parF k s = some (.ok (p, m) j)) : p.Br := by
  rcases parF_head h with ⟨_, h⟩ | ⟨hs, ⟨a, e, _, h⟩ | ⟨p1, m1, j1, hq, ⟨_, h⟩ | ⟨hj, h⟩⟩⟩
  · cases h
  · cases h
  · cases h
  · injection h with h1 h2
    injection h1 with h1 h3
    rw [h1]
    exact (br_ok k).1 hq
theorem vals_one {x : Pt} {o L : List ByteArray} (h : valsK [x] o = some L) : ∃ v, valK x.kids ⟨#[]⟩ = some v ∧ L = (if among o v = true then o else o ++ [v]) := by
  rw [valsK] at h
  cases hv : valK x.kids ⟨#[]⟩ with
  | none => rw [hv] at h; cases h
  | some v => rw [hv] at h; exact ⟨v, rfl, (Option.some.inj h).symm⟩
theorem vals_ok : ∀ (p : Pt), p.WF → p.Br → p.kind = 2 → ∀ L, valsK p.kids [] = some L → ValOk p L
  | .one _ _ _, _, _, h, _, _ => by simp [Pt.kind] at h
  | .eps, _, _, h, _, _ => by simp [Pt.kind] at h
  | .cat _ _, _, _, h, _, _ => by simp [Pt.kind] at h
  | .alt1 x, hw, hb, _, L, h => by
    obtain ⟨v, hv, hL⟩ := vals_one (o := []) h
    obtain ⟨h1, h2, h3⟩ := branch_val (x := x) hw hb hv
    have hL' : L = [v] := by rw [hL]; rfl
    subst hL'
    refine ⟨fun u => ?_, by simp, fun y hy => ?_⟩
    · rw [show Lg (.alt1 x) u = Lg x u from rfl, h1]; simp
    · rw [List.mem_singleton] at hy
      rw [hy]
      refine ⟨h2, ?_⟩
      show v.size ≤ 4 * (x.sz + 1)
      omega
  | .alt q x, hw, hb, _, L, h => by
    have h' : valsK (q.kids ++ [x]) [] = some L := h
    rw [valsK_snoc] at h'
    obtain ⟨o, ho, h'⟩ := Option.bind_eq_some_iff.1 h'
    have ih := vals_ok q hw.2.1 hb.1 hw.1 o ho
    obtain ⟨v, hv, hL⟩ := vals_one h'
    obtain ⟨h1, h2, h3⟩ := branch_val (x := x) hw.2.2 hb.2 hv
    have hsz : (Pt.alt q x).sz = q.sz + x.sz + 1 := rfl
    have hmem : ∀ y, y ∈ L ↔ y ∈ o ∨ y = v := by
      intro y
      rw [hL]
      by_cases ha : among o v = true
      · rw [if_pos ha]
        constructor
        · exact .inl
        · rintro (h | rfl)
          · exact h
          · exact among_mem.1 ha
      · rw [if_neg ha, List.mem_append, List.mem_singleton]
    refine ⟨fun u => ?_, fun e => ?_, fun y hy => ?_⟩
    · rw [show Lg (.alt q x) u = (Lg q u ∨ Lg x u) from rfl, ih.lg, h1]
      constructor
      · rintro (⟨y, hy, e⟩ | e)
        · exact ⟨y, (hmem y).2 (.inl hy), e⟩
        · exact ⟨v, (hmem v).2 (.inr rfl), e⟩
      · rintro ⟨y, hy, e⟩
        rcases (hmem y).1 hy with hy | rfl
        · exact .inl ⟨y, hy, e⟩
        · exact .inr e
    · have := (hmem v).2 (.inr rfl)
      rw [e] at this; cases this
    · rw [hsz]
      rcases (hmem y).1 hy with hy | rfl
      · have := ih.enc y hy; exact ⟨this.1, by omega⟩
      · exact ⟨h2, by omega⟩
  | .again _ _, _, _, h, _, _ => by simp [Pt.kind] at h
/-- A pattern that has values matches just these. -/
theorem vals_law {k : Nat} {t : ByteArray} {p : Pt} {m j : Nat} (hp : parF k t = some (.ok (p, m) j)) {L : List ByteArray} (h : valuesF p = some L) :
    (∀ v ∈ L, matchF p v = true ∧ v.size ≤ 4000) ∧ 0 < L.length ∧ ∀ s, validF s = true → matchF p s = L.any fun v => v.toList == s.toList := by
  obtain ⟨h1, h2, h3, _⟩ := parF_ok hp
  have hv := vals_ok p h2 (parF_br hp) h1 L h
  refine ⟨fun v hm => ⟨(match_iff p v).2 ((hv.lg _).2 ⟨v, hm, rfl⟩), by have := (hv.enc v hm).2; omega⟩, List.length_pos_iff.2 hv.ne, fun s hs => ?_⟩
  rw [Bool.eq_iff_iff, match_iff, hv.lg, List.any_eq_true]
  constructor
  · rintro ⟨v, hm, e⟩
    have h4 := (hv.enc v hm).1
    rw [← e, (valid_enc hs).1] at h4
    exact ⟨v, hm, by rw [toList_data, toList_data, h4]; exact beq_self_eq_true _⟩
  · rintro ⟨v, hm, e⟩
    rw [beq_iff_eq, toList_data, toList_data] at e
    exact ⟨v, hm, by rw [ba_ext e]⟩
set_option maxHeartbeats 4000000 in
set_option maxRecDepth 100000 in
theorem values_law {w : World} (hT : Tab w) (p s : ByteArray) : Calls Tryd.prog 7 #[.string p, .string s] w fun x w' => x = .returned (.bool true) ∧ Below w.heap.size w w' := by
  have HT := Aside0.mk hT
  clear hT
  by_cases c1 : 256 < p.size
  · have c1' : (p.size : Int) > 256 := by omega
    clear c1
    go_enter Tryd.func7, Tryd.ntmps7
    go_wp2_with (first
      | (go_at_call 9; (with_reducible refine (live_calls HT.out).mono ?_); rintro e w1 ⟨rfl, hb⟩; have HT1 := Aside0.mk (HT.out.below hb); have HB1 := Aside0.mk hb; clear hb)
      | (go_at_call 9; (with_reducible refine (live_calls HT1.out).mono ?_); rintro e w2 ⟨rfl, hb⟩; have HB2 := Aside0.mk (HB1.out.trans (hb.mono HB1.out.size)); clear hb))
    go_ret
    exact ⟨rfl, HB2.out⟩
  have c1' : ¬ (p.size : Int) > 256 := by omega
  by_cases c2 : 300 < s.size
  · have c2' : (s.size : Int) > 300 := by omega
    clear c1 c2
    go_enter Tryd.func7, Tryd.ntmps7
    go_wp2_with (first
      | (go_at_call 9; (with_reducible refine (live_calls HT.out).mono ?_); rintro e w1 ⟨rfl, hb⟩; have HT1 := Aside0.mk (HT.out.below hb); have HB1 := Aside0.mk hb; clear hb)
      | (go_at_call 9; (with_reducible refine (live_calls HT1.out).mono ?_); rintro e w2 ⟨rfl, hb⟩; have HB2 := Aside0.mk (HB1.out.trans (hb.mono HB1.out.size)); clear hb))
    go_ret
    exact ⟨rfl, HB2.out⟩
  have c2' : ¬ (s.size : Int) > 300 := by omega
  have HSZ := Aside0.mk (show s.size ≤ 300 by omega)
  clear c1 c2
  cases hv : validF s with
  | false =>
    have HV := Aside0.mk hv
    clear hv
    go_enter Tryd.func7, Tryd.ntmps7
    go_wp2_with (first
      | (go_at_call 9; (with_reducible refine (live_calls HT.out).mono ?_); rintro e w1 ⟨rfl, hb⟩; have HT1 := Aside0.mk (HT.out.below hb); have HB1 := Aside0.mk hb; clear hb)
      | (go_at_call 16; (with_reducible refine (valid_calls (Nat.le_trans HSZ.out (by decide)) _).mono ?_); rw [HV.out]; rintro e w2 ⟨rfl, hb⟩; have HT2 := Aside0.mk (HT1.out.below hb); have HB2 := Aside0.mk (HB1.out.trans (hb.mono HB1.out.size)); clear hb)
      | (go_at_call 9; (with_reducible refine (live_calls HT2.out).mono ?_); rintro e w3 ⟨rfl, hb⟩; have HB3 := Aside0.mk (HB2.out.trans (hb.mono HB2.out.size)); clear hb))
    go_ret
    exact ⟨rfl, HB3.out⟩
  | true =>
  have HV := Aside0.mk hv
  clear hv
  obtain ⟨R, hR⟩ := par_total p
  have HR := Aside0.mk hR
  cases R with
  | bad a e =>
    have h0 : (e != 0) = true := by rcases par_flt hR with rfl | rfl | rfl <;> decide
    clear hR
    go_enter Tryd.func7, Tryd.ntmps7
    go_wp2_with (first
      | (go_at_call 9; (with_reducible refine (live_calls HT.out).mono ?_); rintro e w1 ⟨rfl, hb⟩; have HT1 := Aside0.mk (HT.out.below hb); have HB1 := Aside0.mk hb; clear hb)
      | (go_at_call 16; (with_reducible refine (valid_calls (Nat.le_trans HSZ.out (by decide)) _).mono ?_); rw [HV.out]; rintro e w2 ⟨rfl, hb⟩; have HT2 := Aside0.mk (HT1.out.below hb); have HB2 := Aside0.mk (HB1.out.trans (hb.mono HB1.out.size)); clear hb)
      | (go_at_call 10; (with_reducible refine (parse_calls HT2.out HR.out).mono ?_); rintro e w3 ⟨hb, rfl⟩; have HB3 := Aside0.mk (HB2.out.trans (hb.mono HB2.out.size)); clear hb))
    go_ret
    exact ⟨by first | rfl | (rw [h0]; rfl) | simp [h0], HB3.out⟩
  | ok pm j =>
    obtain ⟨pt, m⟩ := pm
    have HW := Aside0.mk (parF_ok hR)
    cases hvl : valuesF pt with
    | none =>
      have HVL := Aside0.mk hvl
      clear hR hvl
      go_enter Tryd.func7, Tryd.ntmps7
      go_wp2_with (first
        | (go_at_call 9; (with_reducible refine (live_calls HT.out).mono ?_); rintro e w1 ⟨rfl, hb⟩; have HT1 := Aside0.mk (HT.out.below hb); have HB1 := Aside0.mk hb; clear hb)
        | (go_at_call 16; (with_reducible refine (valid_calls (Nat.le_trans HSZ.out (by decide)) _).mono ?_); rw [HV.out]; rintro e w2 ⟨rfl, hb⟩; have HT2 := Aside0.mk (HT1.out.below hb); have HB2 := Aside0.mk (HB1.out.trans (hb.mono HB1.out.size)); clear hb)
        | (go_at_call 10; (with_reducible refine (parse_calls HT2.out HR.out).mono ?_); rintro e w3 ⟨hb, Q, rfl, hx⟩; have HX3 := Aside0.mk hx; have HB3 := Aside0.mk (HB2.out.trans (hb.mono HB2.out.size)); clear hb hx)
        | (go_at_call 18; (with_reducible refine (values_calls HX3.out HW.out.2.1 (Nat.le_trans HW.out.2.2.1 (by decide))).mono ?_); rw [HVL.out]; rintro e w4 ⟨rfl, hb⟩; have HB4 := Aside0.mk (HB3.out.trans (hb.mono HB3.out.size)); clear hb))
      try go_frame
      go_loopg [56] 2 (fun kq v56 wr => v56 = .int .i64 0 ∧ Aside0 (kq = 2) ∧ Aside0 (Below w.heap.size w wr))
      case atStart => exact ⟨rfl, ⟨rfl⟩, HB4⟩
      case round =>
        clear HB4
        obtain ⟨rfl, HK, HB⟩ := hrel
        go_wp2_with (fail)
        go_ret
        exact ⟨rfl, HB.out⟩
    | some L =>
      have HVL := Aside0.mk hvl
      have HLW := Aside0.mk (vals_law hR hvl)
      have hl0 : 0 < L.length := (vals_law hR hvl).2.1
      clear hR hvl
      go_enter Tryd.func7, Tryd.ntmps7
      go_wp2_with (first
        | (go_at_call 9; (with_reducible refine (live_calls HT.out).mono ?_); rintro e w1 ⟨rfl, hb⟩; have HT1 := Aside0.mk (HT.out.below hb); have HB1 := Aside0.mk hb; clear hb)
        | (go_at_call 16; (with_reducible refine (valid_calls (Nat.le_trans HSZ.out (by decide)) _).mono ?_); rw [HV.out]; rintro e w2 ⟨rfl, hb⟩; have HT2 := Aside0.mk (HT1.out.below hb); have HB2 := Aside0.mk (HB1.out.trans (hb.mono HB1.out.size)); clear hb)
        | (go_at_call 10; (with_reducible refine (parse_calls HT2.out HR.out).mono ?_); rintro e w3 ⟨hb, Q, rfl, hx⟩; have HX3 := Aside0.mk hx; have HB3 := Aside0.mk (HB2.out.trans (hb.mono HB2.out.size)); clear hb hx)
        | (go_at_call 18; (with_reducible refine (values_calls HX3.out HW.out.2.1 (Nat.le_trans HW.out.2.2.1 (by decide))).mono ?_); rw [HVL.out]; rintro e w4 ⟨v, rfl, hR, hb⟩; obtain ⟨g, cap, rfl, _⟩ := Kd.R_form hR hl0; have HX4 := Aside0.mk (HX3.out.below hb); have HB4 := Aside0.mk (HB3.out.trans (hb.mono HB3.out.size)); have HR4 := Aside0.mk hR; clear hb hR))
      try go_frame
      have HMX := Aside0.mk (R_max HR4.out)
      go_loopg [10, 56] (L.length + 1) (fun kq v10 v56 wr => ∃ (i : Nat) (b : Bool), v10 = .bool b ∧ v56 = .int .i64 i ∧ Aside0 (kq + i = L.length + 1 ∧ i ≤ L.length) ∧ Aside0 ((b || (L.drop i).any fun v => v.toList == s.toList) = L.any fun v => v.toList == s.toList) ∧ Aside0 (Kd.string.R 9 wr w3.heap.size (fun k => w3.heap.size ≤ k) (.slice (some ⟨g, 0, none⟩) L.length cap) L) ∧ Aside0 (Rx wr w2.heap.size Q p pt m) ∧ Aside0 (Below w.heap.size w wr))
      case atStart => exact ⟨0, false, rfl, rfl, ⟨by omega, by omega⟩, ⟨by rw [List.drop_zero, Bool.false_or]⟩, HR4, HX4, HB4⟩
      case round =>
        clear HR4 HX4 HB4 HX3 HB3 HB2 HT2
        obtain ⟨i, b, rfl, rfl, HK, HA, HR4, HX, HB⟩ := hrel
        cases gk with
        | zero => have := HK.out; omega
        | succ k1 =>
        by_cases hi : i < L.length
        · have hi' : (i : Int) < (L.length : Int) := by omega
          have HI := Aside0.mk hi
          obtain ⟨v, hv⟩ : ∃ v, L.getD i ⟨#[]⟩ = v := ⟨_, rfl⟩
          have hve : L[i] = v := by rw [← hv, List.getD_eq_getElem?_getD, List.getElem?_eq_getElem hi]; rfl
          have c0 := (Kd.R_celln (⟨#[]⟩ : ByteArray) HR4.out (i : Int) (by omega) (by omega)).1
          rw [Int.toNat_natCast] at c0
          have c0' : wr.cell? ⟨g, i, none⟩ = some (.string v) := by rw [c0]; show some (Value.string (L.getD (i : Int).toNat ⟨#[]⟩)) = _; rw [Int.toNat_natCast, hv]
          have HMV := Aside0.mk (HLW.out.1 v (by rw [← hve]; exact List.getElem_mem hi))
          have HA2 := Aside0.mk (show (b || (v.toList == s.toList) || (L.drop (i + 1)).any fun v => v.toList == s.toList) = L.any fun v => v.toList == s.toList by
            have h := HA.out
            rw [List.drop_eq_getElem_cons hi, List.any_cons, hve] at h
            rw [Bool.or_assoc]; exact h)
          obtain ⟨y, hy⟩ : ∃ y, (v.toList == s.toList) = y := ⟨_, rfl⟩
          rw [hy] at HA2
          clear c0 hv hve hi
          cases b with
          | true =>
            go_wp2_with (go_at_call 12; (with_reducible refine (match_calls HX.out HW.out.2.1 (Nat.le_trans HMV.out.2 (by decide))).mono ?_); rw [HMV.out.1]; rintro e w5 ⟨rfl, hb⟩; have HX5 := Aside0.mk (HX.out.below hb); have HB5 := Aside0.mk (HB.out.trans (hb.mono HB.out.size)); have HR5 := Aside0.mk (Kd.R_below HR4.out hb); clear hb)
            go_roundg k1
            case measure => omega
            case rel => exact ⟨i + 1, true, rfl, by first | rfl | (simp; done) | (rw [wrap64_self (n := (i : Int) + 1) (by omega) (by have h1 := HMX.out; have h2 := HI.out; unfold maxLen at h1; omega)]; first | rfl | (simp; done)), ⟨by have := HK.out; omega, by have := HI.out; omega⟩, ⟨by have h := HA2.out; rw [Bool.true_or] at h ⊢; simpa using h⟩, HR5, HX5, HB5⟩
          | false =>
            cases y with
            | true =>
              go_wp2_with (go_at_call 12; (with_reducible refine (match_calls HX.out HW.out.2.1 (Nat.le_trans HMV.out.2 (by decide))).mono ?_); rw [HMV.out.1]; rintro e w5 ⟨rfl, hb⟩; have HX5 := Aside0.mk (HX.out.below hb); have HB5 := Aside0.mk (HB.out.trans (hb.mono HB.out.size)); have HR5 := Aside0.mk (Kd.R_below HR4.out hb); clear hb)
              go_roundg k1
              case measure => omega
              case rel => exact ⟨i + 1, true, rfl, by first | rfl | (simp; done) | (rw [wrap64_self (n := (i : Int) + 1) (by omega) (by have h1 := HMX.out; have h2 := HI.out; unfold maxLen at h1; omega)]; first | rfl | (simp; done)), ⟨by have := HK.out; omega, by have := HI.out; omega⟩, ⟨by have h := HA2.out; rw [Bool.false_or, Bool.true_or] at h; rw [Bool.true_or]; exact h⟩, HR5, HX5, HB5⟩
            | false =>
              go_wp2_with (go_at_call 12; (with_reducible refine (match_calls HX.out HW.out.2.1 (Nat.le_trans HMV.out.2 (by decide))).mono ?_); rw [HMV.out.1]; rintro e w5 ⟨rfl, hb⟩; have HX5 := Aside0.mk (HX.out.below hb); have HB5 := Aside0.mk (HB.out.trans (hb.mono HB.out.size)); have HR5 := Aside0.mk (Kd.R_below HR4.out hb); clear hb)
              go_roundg k1
              case measure => omega
              case rel => exact ⟨i + 1, false, rfl, by first | rfl | (simp; done) | (rw [wrap64_self (n := (i : Int) + 1) (by omega) (by have h1 := HMX.out; have h2 := HI.out; unfold maxLen at h1; omega)]; first | rfl | (simp; done)), ⟨by have := HK.out; omega, by have := HI.out; omega⟩, ⟨by have h := HA2.out; rw [Bool.false_or] at h; exact h⟩, HR5, HX5, HB5⟩
        · have hi' : ¬ (i : Int) < (L.length : Int) := by omega
          have HE := Aside0.mk (show matchF pt s = b by
            have h := HA.out
            rw [List.drop_eq_nil_of_le (by omega), List.any_nil, Bool.or_false] at h
            rw [HLW.out.2.2 s HV.out, h])
          have hl0' : (L.length : Int) > 0 := by omega
          clear hi
          go_wp2_with (go_at_call 12; (with_reducible refine (match_calls HX.out HW.out.2.1 (Nat.le_trans HSZ.out (by decide))).mono ?_); rw [HE.out]; rintro e w5 ⟨rfl, hb⟩; have HB5 := Aside0.mk (HB.out.trans (hb.mono HB.out.size)); clear hb)
          go_ret
          exact ⟨by first | rfl | (cases b <;> rfl) | (cases b <;> simp), HB5.out⟩
end Go.Proofs.YtmfpikhmeacnbaaDoor.X
