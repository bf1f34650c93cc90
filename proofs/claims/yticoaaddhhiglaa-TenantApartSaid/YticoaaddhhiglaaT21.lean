import Derived.Test.YticoaaddhhiglaaTF
import Derived.Test.YticoaaddhhiglaaT20
/- The laws by hand: TenantTurns (mkT21.py). -/
namespace Go.Proofs.Yticoaaddhhiglaa.T
open Go.RowKit Go.Proofs.Yticoaaddhhiglaa.Q Go.Proofs.YticoaaddhhiglaaW.PrintWords Go.Proofs.YticoaaddhhiglaaW.PrintLast Go.Proofs.YticoaaddhhiglaaW.PrintMore
set_option linter.unusedVariables false
set_option linter.unusedSimpArgs false
/-- What Get hands out. -/
def getX (st : St) (s : ByteArray) : S39 := (look st s).getD z39
def getB (st : St) (s : ByteArray) : Bool := (look st s).isSome
theorem getX_small {w : World} {D M : Nat} {st : St} (h : TabG w D M st) (s : ByteArray) : (getX st s).f1.length ≤ 4 ∧ (getX st s).f5.length ≤ 8 := by
  unfold getX
  cases hl : look st s with
  | none => exact ⟨by decide, by decide⟩
  | some x =>
    have := look_fine h hl
    exact ⟨this.keys, this.readers⟩
theorem get2_calls {w : World} {D M : Nat} {st : St} (h : TabG w D M st) (s : ByteArray) : Calls Try.prog 15 #[.pointer (some ⟨D, 0, none⟩), .string s] w fun e w' => ∃ A1 c1 A8 c8, e = .returned (.tuple #[.agg (ten (getX st s) (.slice A1 (getX st s).f1.length c1) (.slice A8 (getX st s).f5.length c8)).toArray, .bool (getB st s)]) ∧
    (k23.R 23 w' w.heap.size (fun _ => True) (.slice A1 (getX st s).f1.length c1) (getX st s).f1 ∧ Kd.string.R 9 w' w.heap.size (fun _ => True) (.slice A8 (getX st s).f5.length c8) (getX st s).f5) ∧ Below w.heap.size w w' := by
  refine (get_calls h s).mono (fun e w' ⟨h1, h2⟩ => ?_)
  unfold getX getB
  rcases h1 with ⟨hl, he⟩ | ⟨x, v1, v8, hl, he, r1, r8⟩
  · rw [hl]
    exact ⟨none, 0, none, 0, he, ⟨Kd.R_nil _ _ _ _ _, Kd.R_nil _ _ _ _ _⟩, h2⟩
  · rw [hl]
    obtain ⟨A1, c1, e1⟩ := Kd.R_slice r1
    obtain ⟨A8, c8, e8⟩ := Kd.R_slice r8
    subst e1; subst e8
    exact ⟨A1, c1, A8, c8, he, ⟨r1, r8⟩, h2⟩
/-- A tenant that was handed out, in a block. -/
def Wz (w : World) (E : Nat) (x : S39) (A1 : Option Addr) (n c1 : Nat) (A8 : Option Addr) (n8 c8 : Nat) : Prop := w.heap[E]? = some (.cells (ten x (.slice A1 n c1) (.slice A8 n8 c8)).toArray 39 (0, 0)) ∧ k23.C w A1 n x.f1 ∧ n ≤ c1 ∧ Kd.string.C w A8 n8 x.f5 ∧ n8 ≤ c8
theorem sane_C23' {w w' : World} (h : Sane w w') {A : Option Addr} {n : Nat} {xs : List S23} (hC : k23.C w A n xs) : k23.C w' A n xs := sane_C23 h hC
theorem Wz.sane {w w' : World} {E : Nat} {x : S39} {A1 : Option Addr} {n c1 : Nat} {A8 : Option Addr} {n8 c8 : Nat} (h : Wz w E x A1 n c1 A8 n8 c8) (hs : Sane w w') : Wz w' E x A1 n c1 A8 n8 c8 :=
  ⟨(hs _ _ _ _ h.1).trans h.1, sane_C23 hs h.2.1, h.2.2.1, sane_CS hs h.2.2.2.1, h.2.2.2.2⟩
theorem same_calls {w : World} {x : S39} {n n8 : Nat} (hn : n = x.f1.length) (hn8 : n8 = x.f5.length) (h1 : x.f1.length ≤ 100) (h5 : x.f5.length ≤ 100) {E A1 c1 A8 c8 F B1 d1 B8 d8} (h : Wz w E x A1 n c1 A8 n8 c8) (h' : Wz w F x B1 n d1 B8 n8 d8) :
    Calls Try.prog 17 #[.agg (ten x (.slice A1 n c1) (.slice A8 n8 c8)).toArray, .agg (ten x (.slice B1 n d1) (.slice B8 n8 d8)).toArray] w fun e w' => e = .returned (.bool true) ∧ Below w.heap.size w w' := by
  subst hn; subst hn8
  exact manometerref18_Same.calls 400 x.f0 A1 c1 x.f1 _ _ _ _ _ _ A8 c8 x.f5 x.f0 B1 d1 x.f1 _ _ _ _ _ _ B8 d8 x.f5 true w h.2.1 h.2.2.1 h.2.2.2.1 h.2.2.2.2 h'.2.1 h'.2.2.1 h'.2.2.2.1 h'.2.2.2.2 (same_self x h1 h5)
theorem In_calls {w : World} {A : Option Addr} {n c : Nat} {l : List ByteArray} (s : ByteArray) (hC : Kd.string.C w A n l) (hn : n = l.length) (hc : n ≤ c) (hl : l.length ≤ 1000) : Calls Try.prog 18 #[.slice A n c, .string s] w fun e w' => e = .returned (.bool (decide (s ∈ l))) ∧ Below w.heap.size w w' := by
  subst hn
  exact (manometerref18_In.calls (l.length + 1) A c l s _ w hC hc (in_f l s hl (by omega))).mono (fun e w' h => ⟨h.1, h.2.below⟩)
theorem access_few {w : World} {D M : Nat} {st : St} (h : TabG w D M st) (who : ByteArray) : (accessT st who).length ≤ 16 := Nat.le_trans (List.length_filter_le _ _) h.few
/-- Do, and cells that stay. -/
theorem LvW.doS {w0 : World} {D M : Nat} {st st' : St} {w : World} (h : LvW w0 D M st w) {c : S27} {r : Int} (hr : doT st c = (r, st')) : Calls Try.prog 14 #[.pointer (some ⟨D, 0, none⟩), .agg (chg c).toArray] w fun e w' => e = .returned (.int .i64 r) ∧ LvW w0 D M st' w' ∧ Sane w w' :=
  (do_calls h.tab c).mono (fun e w' ⟨h1, h2, h3⟩ => by
    rw [hr] at h1 h2
    refine ⟨h1, ⟨h2, Chg.onto h.below (Nat.le_refl _) h3 (fun k e => by rw [e]; exact h.hM), h.hD, h.hM⟩, fun k cs t fz hk => h3.block k (heap_lt hk) (fun e => ?_)⟩
    obtain ⟨G, h4, _⟩ := h.tab.ex
    obtain ⟨ma, clk, h5, _⟩ := h4
    rw [e, h5] at hk
    cases hk)
theorem LvW.doQ {w0 : World} {D M : Nat} {st st' : St} {w : World} (h : LvW w0 D M st w) {d : Int} {who owner : ByteArray} {r : Int} (hr : doT st ⟨d, owner, ⟨0, ⟨#[]⟩⟩, ⟨0, 0, 0, 0⟩, 0, 0, who⟩ = (r, st')) : Calls Try.prog 14 #[.pointer (some ⟨D, 0, none⟩), .agg #[.int .i64 d, .string owner, .int .i64 0, .string ⟨#[]⟩, .int .i64 0, .int .i64 0, .int .i64 0, .int .i64 0, .int .i64 0, .int .i64 0, .string who]] w fun e w' => e = .returned (.int .i64 r) ∧ LvW w0 D M st' w' ∧ Sane w w' := by
  have e : (#[.int .i64 d, .string owner, .int .i64 0, .string ⟨#[]⟩, .int .i64 0, .int .i64 0, .int .i64 0, .int .i64 0, .int .i64 0, .int .i64 0, .string who] : Array Value) = (chg ⟨d, owner, ⟨0, ⟨#[]⟩⟩, ⟨0, 0, 0, 0⟩, 0, 0, who⟩).toArray := rfl
  rw [e]
  exact h.doS hr
/-- Do at a change in a block of its own. -/
theorem LvW.doA {w0 : World} {D M : Nat} {st st' : St} {w : World} (h : LvW w0 D M st w) {d : Int} {tn : ByteArray} {k : S23} {lm : S25} {qu ri : Int} {rdr : ByteArray} {r : Int} (hr : doT st ⟨d, tn, k, lm, qu, ri, rdr⟩ = (r, st')) : Calls Try.prog 14 #[.pointer (some ⟨D, 0, none⟩), .agg #[.int .i64 d, .string tn, .int .i64 k.f0, .string k.f1, .int .i64 lm.f0, .int .i64 lm.f1, .int .i64 lm.f2, .int .i64 lm.f3, .int .i64 qu, .int .i64 ri, .string rdr]] (w.alloc (.cells #[.int .i64 d, .string tn, .int .i64 k.f0, .string k.f1, .int .i64 lm.f0, .int .i64 lm.f1, .int .i64 lm.f2, .int .i64 lm.f3, .int .i64 qu, .int .i64 ri, .string rdr] 27)) fun e w' => e = .returned (.int .i64 r) ∧ LvW w0 D M st' w' ∧ w'.heap[w.heap.size]? = some (.cells (chg ⟨d, tn, k, lm, qu, ri, rdr⟩).toArray 27 (0, 0)) := by
  have e : (#[.int .i64 d, .string tn, .int .i64 k.f0, .string k.f1, .int .i64 lm.f0, .int .i64 lm.f1, .int .i64 lm.f2, .int .i64 lm.f3, .int .i64 qu, .int .i64 ri, .string rdr] : Array Value) = (chg ⟨d, tn, k, lm, qu, ri, rdr⟩).toArray := rfl
  rw [e]
  have h' := h.then_ (below_alloc (Below.refl w.heap.size w) (.cells (chg ⟨d, tn, k, lm, qu, ri, rdr⟩).toArray 27))
  refine (do_calls h'.tab ⟨d, tn, k, lm, qu, ri, rdr⟩).mono (fun e w' ⟨h1, h2, h3⟩ => ?_)
  rw [hr] at h1 h2
  refine ⟨h1, ⟨h2, Chg.onto h'.below (Nat.le_refl _) h3 (fun k e => by rw [e]; exact h'.hM), h.hD, h.hM⟩, (h3.block _ (heap_lt (heap_alloc_new _ _)) (fun e => ?_)).trans (heap_alloc_new _ _)⟩
  obtain ⟨G, h4, _⟩ := h.tab.ex
  have := h4.lt
  omega
theorem wz_of {w : World} {E : Nat} {x : S39} {A1 : Option Addr} {n c1 : Nat} {A8 : Option Addr} {n8 c8 : Nat} {base : Nat} (h : w.heap[E]? = some (.cells (ten x (.slice A1 n c1) (.slice A8 n8 c8)).toArray 39 (0, 0))) (h1 : k23.R 23 w base (fun _ => True) (.slice A1 n c1) x.f1) (h8 : Kd.string.R 9 w base (fun _ => True) (.slice A8 n8 c8) x.f5) : Wz w E x A1 n c1 A8 n8 c8 := by
  obtain ⟨rfl, l1, g1⟩ := Kd.R_reads' h1
  obtain ⟨rfl, l8, g8⟩ := Kd.R_reads' h8
  exact ⟨h, g1, l1, g8, l8⟩
set_option maxHeartbeats 4000000 in
set_option maxRecDepth 100000 in
theorem turns_law {w : World} {A : Option Addr} {c : Nat} {l : List S27} (owner who : ByteArray) (hC : k27.C w A l.length l) (hc : l.length ≤ c) : Calls Try.prog 4 #[.slice A l.length c, .string owner, .string who] w fun e w' => e = .returned (.bool true) ∧ Below w.heap.size w w' := by
  have hmax := Kd.C_max hC
  obtain ⟨r, hr⟩ := few_calls (A := A) (c := c) (l := l) hmax
  obtain ⟨n, hn⟩ : ∃ n : Nat, n = l.length := ⟨_, rfl⟩
  rw [← hn] at hmax hr hC hc ⊢
  have HR := Aside0.mk hr
  have HC := Aside0.mk hC
  have HN := Aside0.mk (And.intro hn (And.intro hmax hc))
  clear hr hn hC hc hmax
  have hcase : r = false ∨ (r = true ∧ (owner.size : Int) > 200) ∨ (r = true ∧ ¬ (owner.size : Int) > 200 ∧ (who.size : Int) > 200) ∨ (r = true ∧ ¬ (owner.size : Int) > 200 ∧ ¬ (who.size : Int) > 200) := by
    cases r
    · exact .inl rfl
    · by_cases h1 : (owner.size : Int) > 200
      · exact .inr (.inl ⟨rfl, h1⟩)
      · by_cases h2 : (who.size : Int) > 200
        · exact .inr (.inr (.inl ⟨rfl, h1, h2⟩))
        · exact .inr (.inr (.inr ⟨rfl, h1, h2⟩))
  rcases hcase with rfl | ⟨rfl, q1⟩ | ⟨rfl, q1, q2⟩ | ⟨rfl, q1, q2⟩
  iterate 3
    · go_enter Try.func4, Try.ntmps4
      go_wp2_with (first
        | (go_at_call 9; have hmark := H3.out; (with_reducible refine (live_calls _).mono ?_); rintro e w4 ⟨rfl, hb⟩; have H4 := Aside0.mk (below_step H3.out hb); clear hb hmark)
        | (go_at_call 9; (with_reducible refine (live_calls _).mono ?_); rintro e w2 ⟨rfl, hb⟩; have H2 := Aside0.mk hb; clear hb)
        | (go_at_call 10; (with_reducible refine (HR.out _ (Kd.C_below HC.out H2.out) HN.out.2.2).mono ?_); rintro e w3 ⟨rfl, hb⟩; have H3 := Aside0.mk (below_step H2.out hb); clear hb))
      go_ret
      exact ⟨rfl, H4.out⟩
  · go_enter Try.func4, Try.ntmps4
    go_wp2_with (first
      | (go_at_call 9; (with_reducible refine (live_calls _).mono ?_); rintro e w2 ⟨rfl, hb⟩; have H2 := Aside0.mk hb; clear hb)
      | (go_at_call 10; (with_reducible refine (HR.out _ (Kd.C_below HC.out H2.out) HN.out.2.2).mono ?_); rintro e w3 ⟨rfl, hb⟩; have H3 := Aside0.mk (below_step H2.out hb); clear hb)
      | (go_at_call 13; (with_reducible refine (LvW.made _).mono ?_); rintro e w4 ⟨D, M, rfl, h4⟩; have H4 := Aside0.mk (show LvW w D M [] w4 from ⟨h4.tab, below_step H3.out h4.below, Nat.le_trans H3.out.size h4.hD, Nat.le_trans H3.out.size h4.hM⟩); clear h4))
    go_loopg [37] (n + 1) (fun kq v37 wr => ∃ (i : Nat), v37 = .int .i64 i ∧ Aside0 (kq + i = n + 1 ∧ i ≤ n) ∧ Aside0 (∃ st, LvW w D M st wr))
    case atStart => exact ⟨0, rfl, ⟨by omega⟩, ⟨[], H4.out⟩⟩
    case round =>
      obtain ⟨i, rfl, HK, HL⟩ := hrel
      obtain ⟨st, hL⟩ := HL.out
      have HL := Aside0.mk hL
      clear hL
      cases gk with
      | zero => have := HK.out; omega
      | succ k1 =>
      by_cases hlt : i < n
      · have hi0 : (0 : Int) ≤ (i : Int) := by omega
        have hi1 : (i : Int) < (n : Int) := by omega
        obtain ⟨ad, hA, x0, x1, x2, x3, x4, x5, x6, x7, x8, x9, x10⟩ := at_T27 (Kd.C_below HC.out HL.out.below) (i : Int) hi0 hi1
        simp only [Int.toNat_natCast] at x0 x1 x2 x3 x4 x5 x6 x7 x8 x9 x10
        have hi2 : (i : Int) + 1 ≤ 9223372036854775807 := by have := HN.out.2.1; omega
        subst hA
        clear hlt
        generalize rd_T27 l (i : Int) = x at *
        obtain ⟨d, tn, k, lm, qu, ri, rdr⟩ := x
        try dsimp only at x0 x1 x2 x3 x4 x5 x6 x7 x8 x9 x10
        obtain ⟨er, st', hdo⟩ : ∃ er st', doT st ⟨d, tn, k, lm, qu, ri, rdr⟩ = (er, st') := ⟨_, _, rfl⟩
        have HDO := Aside0.mk hdo
        clear hdo
        go_wp2_with (first
          | (go_at_call 14; (with_reducible refine (HL.out.doA HDO.out).mono ?_); rintro e w8 ⟨rfl, h8, hx8⟩; have H8 := Aside0.mk h8; clear h8 hx8 x0 x1 x2 x3 x4 x5 x6 x7 x8 x9 x10))
        go_roundg k1
        case measure => omega
        case rel => exact ⟨i + 1, by first | rfl | (simp; done) | (rw [wrap_id (n := (i : Int) + 1) (by omega) (by omega)]; first | rfl | (simp; done)), ⟨by have := HK.out; omega⟩, ⟨st', H8.out⟩⟩
      · have hi : i = n := by have := HK.out; omega
        subst hi
        clear hlt
        obtain ⟨x, hx⟩ : ∃ x, x = getX st owner := ⟨_, rfl⟩
        obtain ⟨n1, hn1⟩ : ∃ n : Nat, n = x.f1.length := ⟨_, rfl⟩
        obtain ⟨n8, hn8⟩ : ∃ n : Nat, n = x.f5.length := ⟨_, rfl⟩
        have HXS := Aside0.mk (show x.f1.length ≤ 100 ∧ x.f5.length ≤ 100 by have := getX_small HL.out.tab owner; rw [← hx] at this; omega)
        obtain ⟨er, st1, hdo⟩ : ∃ er st1, doT st (allowT who owner) = (er, st1) := ⟨_, _, rfl⟩
        have HX := Aside0.mk (And.intro hx (And.intro hn1 hn8))
        have HDO := Aside0.mk hdo
        by_cases he : er = 0
        · subst he
          have ht := turns HL.out.tab.sorted (who := who) (owner := owner) (by rw [hdo])
          rw [hdo] at ht
          obtain ⟨y, hy1, hy2, st2, hy3, hy4, hy5⟩ := ht
          have hb1 : getB st owner = true := by unfold getB; rw [hy1]; rfl
          have HY := Aside0.mk (And.intro hy2 (And.intro hy3 (And.intro hy4 (And.intro hb1 (show getX st2 owner = x by rw [hx]; unfold getX; rw [hy5, hy1])))))
          have HRR := Aside0.mk (access_in st2 who owner)
          clear hx hn1 hn8 hdo hy1 hy2 hy3 hy4 hy5 hb1
          go_wp2_with (first
            | ((with_reducible refine gate_dst (N := 10) rfl ?_); refine box_event ?hg (N := 10) ?hd (cs := (ten z39 (.slice none 0 0) (.slice none 0 0)).toArray) (t := 39) ?hr ?_; (case hd => rfl); (case hg => rfl); (case hr => first | (go_simp; done) | (go_simp; rfl)); intro E hE w9 h9 hb9; have HE9 := Aside0.mk h9; have HEG := Aside0.mk (show w8.heap.size ≤ E by omega); have HB9 := Aside0.mk hb9; clear hE h9 hb9)
            | ((with_reducible refine gate_ (.store 39 (.tmp 10) (.tmp 49)) rfl ?_); refine store_blk rfl 39 (.tmp 10) (.tmp 49) rfl E (ten z39 (.slice none 0 0) (.slice none 0 0)) (ten x (.slice A1 n1 c1) (.slice A8 n8 c8)) rfl rfl HE9.out rfl size39 (ten_one _ rfl rfl) ?_; intro wb ha hka hba; have Hb := Aside0.mk (H8.out.then_ (hba w8 HEG.out HB9.out)); have HWb := Aside0.mk (wz_of ha (Kd.R_below HR8.out.1 (hba w8 HEG.out HB9.out)) (Kd.R_below HR8.out.2 (hba w8 HEG.out HB9.out))); clear ha hka hba)
            | (go_at_call 14; have hmark := Hd.out; (with_reducible refine (Hd.out.doQ HY.out.2.1).mono ?_); rintro e we ⟨rfl, h, hs⟩; have He := Aside0.mk h; have HWe := Aside0.mk (HWd.out.sane hs); clear h hs hmark)
            | (go_at_call 14; (with_reducible refine (Hb.out.doQ HDO.out).mono ?_); rintro e wc ⟨rfl, h, hs⟩; have Hc := Aside0.mk h; have HWc := Aside0.mk (HWb.out.sane hs); clear h hs)
            | (go_at_call 16; have hmark := Hm.out; (with_reducible refine (reads_calls Hm.out.tab who owner).mono ?_); rintro e wz ⟨rfl, hb⟩; have Hz := Aside0.mk (Hm.out.then_ hb); clear hb hmark)
            | (go_at_call 16; have hmark := He.out; (with_reducible refine (reads_calls He.out.tab who owner).mono ?_); rintro e wf ⟨rfl, hb⟩; rw [HY.out.2.2.1]; have Hf := Aside0.mk (He.out.then_ hb); have HWf := Aside0.mk (HWe.out.sane (sane_below hb)); clear hb hmark)
            | (go_at_call 16; (with_reducible refine (reads_calls Hc.out.tab who owner).mono ?_); rintro e wd ⟨rfl, hb⟩; rw [HY.out.1]; have Hd := Aside0.mk (Hc.out.then_ hb); have HWd := Aside0.mk (HWc.out.sane (sane_below hb)); clear hb)
            | (go_at_call 15; have hmark := Hf.out; (with_reducible refine (get2_calls Hf.out.tab owner).mono ?_); rw [HY.out.2.2.2.2, ← HX.out.2.1, ← HX.out.2.2]; rintro e wg ⟨B1, d1, B8, d8, rfl, hr, hb⟩; have Hg := Aside0.mk (Hf.out.then_ hb); have HWg := Aside0.mk (HWf.out.sane (sane_below hb)); have HRg := Aside0.mk hr; clear hr hb hmark)
            | (go_at_call 15; (with_reducible refine (get2_calls HL.out.tab owner).mono ?_); rw [← HX.out.1, ← HX.out.2.1, ← HX.out.2.2]; rintro e w8 ⟨A1, c1, A8, c8, rfl, hr, hb⟩; rw [HY.out.2.2.2.1]; have H8 := Aside0.mk (HL.out.then_ hb); have HR8 := Aside0.mk hr; clear hr hb)
            | ((with_reducible refine gate_dst (N := 12) rfl ?_); refine box_event ?hg (N := 12) ?hd (cs := (ten z39 (.slice none 0 0) (.slice none 0 0)).toArray) (t := 39) ?hr ?_; (case hd => rfl); (case hg => rfl); (case hr => first | (go_simp; done) | (go_simp; rfl)); intro F hF wh h9 hb9; have HFh := Aside0.mk h9; have HFG := Aside0.mk (show wg.heap.size ≤ F by omega); have HBh := Aside0.mk hb9; clear hF h9 hb9)
            | ((with_reducible refine gate_ (.store 39 (.tmp 12) (.tmp 84)) rfl ?_); refine store_blk rfl 39 (.tmp 12) (.tmp 84) rfl F (ten z39 (.slice none 0 0) (.slice none 0 0)) (ten x (.slice B1 n1 d1) (.slice B8 n8 d8)) rfl rfl HFh.out rfl size39 (ten_one _ rfl rfl) ?_; intro wi ha hka hba; have Hi := Aside0.mk (Hg.out.then_ (hba wg HFG.out HBh.out)); have HWi := Aside0.mk (HWg.out.sane (sane_below (hba wg HFG.out HBh.out))); have HNi := Aside0.mk (wz_of ha (Kd.R_below HRg.out.1 (hba wg HFG.out HBh.out)) (Kd.R_below HRg.out.2 (hba wg HFG.out HBh.out))); clear ha hka hba)
            | ((with_reducible refine gate_ (.load 39 (.tmp 10)) rfl ?_); refine load_blk rfl 39 (.tmp 10) rfl E rfl (ten x (.slice A1 n1 c1) (.slice A8 n8 c8)) HWi.out.1 _ Try.underlying39 rfl size39 ?_)
            | ((with_reducible refine gate_ (.load 39 (.tmp 12)) rfl ?_); refine load_blk rfl 39 (.tmp 12) rfl F rfl (ten x (.slice B1 n1 d1) (.slice B8 n8 d8)) HNi.out.1 _ Try.underlying39 rfl size39 ?_)
            | (go_at_call 17; (with_reducible refine (same_calls HX.out.2.1 HX.out.2.2 HXS.out.1 HXS.out.2 HWi.out HNi.out).mono ?_); rintro e wj ⟨rfl, hb⟩; have Hj := Aside0.mk (Hi.out.then_ hb); clear hb)
            | (go_at_call 19; (with_reducible refine (access_calls Hj.out.tab who).mono ?_); rintro e wk ⟨Ak, ck, rfl, hCk, hck, hb⟩; have Hk := Aside0.mk (Hj.out.then_ hb); have HCk := Aside0.mk (And.intro hCk hck); clear hb hCk hck)
            | (go_at_call 18; (with_reducible refine (In_calls owner HCk.out.1 rfl HCk.out.2 (by have := access_few Hk.out.tab who; omega)).mono ?_); rintro e wm ⟨rfl, hb⟩; have Hm := Aside0.mk (Hk.out.then_ hb); clear hb))
          go_ret
          exact ⟨by rw [HRR.out]; simp, Hz.out.below⟩
        · have hst : st1 = st := by have := turns_not (st := st) (c := allowT who owner) (by rw [hdo]; exact he); rw [hdo] at this; exact this
          subst hst
          have hne : (er == 0) = false := beq_false_of_ne he
          have HY := Aside0.mk (And.intro trivial (And.intro trivial (And.intro trivial (And.intro trivial (show getX st1 owner = x from hx.symm)))))
          have HRR := Aside0.mk (access_in st1 who owner)
          clear hx hn1 hn8 hdo he
          go_wp2_with (first
            | ((with_reducible refine gate_dst (N := 10) rfl ?_); refine box_event ?hg (N := 10) ?hd (cs := (ten z39 (.slice none 0 0) (.slice none 0 0)).toArray) (t := 39) ?hr ?_; (case hd => rfl); (case hg => rfl); (case hr => first | (go_simp; done) | (go_simp; rfl)); intro E hE w9 h9 hb9; have HE9 := Aside0.mk h9; have HEG := Aside0.mk (show w8.heap.size ≤ E by omega); have HB9 := Aside0.mk hb9; clear hE h9 hb9)
            | ((with_reducible refine gate_ (.store 39 (.tmp 10) (.tmp 49)) rfl ?_); refine store_blk rfl 39 (.tmp 10) (.tmp 49) rfl E (ten z39 (.slice none 0 0) (.slice none 0 0)) (ten x (.slice A1 n1 c1) (.slice A8 n8 c8)) rfl rfl HE9.out rfl size39 (ten_one _ rfl rfl) ?_; intro wb ha hka hba; have Hb := Aside0.mk (H8.out.then_ (hba w8 HEG.out HB9.out)); have HWb := Aside0.mk (wz_of ha (Kd.R_below HR8.out.1 (hba w8 HEG.out HB9.out)) (Kd.R_below HR8.out.2 (hba w8 HEG.out HB9.out))); clear ha hka hba)
            | (go_at_call 14; (with_reducible refine (Hb.out.doQ HDO.out).mono ?_); rintro e wf ⟨rfl, h, hs⟩; have Hf := Aside0.mk h; have HWf := Aside0.mk (HWb.out.sane hs); clear h hs)
            | (go_at_call 16; (with_reducible refine (reads_calls Hm.out.tab who owner).mono ?_); rintro e wz ⟨rfl, hb⟩; have Hz := Aside0.mk (Hm.out.then_ hb); clear hb)
            | (go_at_call 15; have hmark := Hf.out; (with_reducible refine (get2_calls Hf.out.tab owner).mono ?_); rw [HY.out.2.2.2.2, ← HX.out.2.1, ← HX.out.2.2]; rintro e wg ⟨B1, d1, B8, d8, rfl, hr, hb⟩; have Hg := Aside0.mk (Hf.out.then_ hb); have HWg := Aside0.mk (HWf.out.sane (sane_below hb)); have HRg := Aside0.mk hr; clear hr hb hmark)
            | (go_at_call 15; (with_reducible refine (get2_calls HL.out.tab owner).mono ?_); rw [← HX.out.1, ← HX.out.2.1, ← HX.out.2.2]; rintro e w8 ⟨A1, c1, A8, c8, rfl, hr, hb⟩; have H8 := Aside0.mk (HL.out.then_ hb); have HR8 := Aside0.mk hr; clear hr hb)
            | ((with_reducible refine gate_dst (N := 12) rfl ?_); refine box_event ?hg (N := 12) ?hd (cs := (ten z39 (.slice none 0 0) (.slice none 0 0)).toArray) (t := 39) ?hr ?_; (case hd => rfl); (case hg => rfl); (case hr => first | (go_simp; done) | (go_simp; rfl)); intro F hF wh h9 hb9; have HFh := Aside0.mk h9; have HFG := Aside0.mk (show wg.heap.size ≤ F by omega); have HBh := Aside0.mk hb9; clear hF h9 hb9)
            | ((with_reducible refine gate_ (.store 39 (.tmp 12) (.tmp 84)) rfl ?_); refine store_blk rfl 39 (.tmp 12) (.tmp 84) rfl F (ten z39 (.slice none 0 0) (.slice none 0 0)) (ten x (.slice B1 n1 d1) (.slice B8 n8 d8)) rfl rfl HFh.out rfl size39 (ten_one _ rfl rfl) ?_; intro wi ha hka hba; have Hi := Aside0.mk (Hg.out.then_ (hba wg HFG.out HBh.out)); have HWi := Aside0.mk (HWg.out.sane (sane_below (hba wg HFG.out HBh.out))); have HNi := Aside0.mk (wz_of ha (Kd.R_below HRg.out.1 (hba wg HFG.out HBh.out)) (Kd.R_below HRg.out.2 (hba wg HFG.out HBh.out))); clear ha hka hba)
            | ((with_reducible refine gate_ (.load 39 (.tmp 10)) rfl ?_); refine load_blk rfl 39 (.tmp 10) rfl E rfl (ten x (.slice A1 n1 c1) (.slice A8 n8 c8)) HWi.out.1 _ Try.underlying39 rfl size39 ?_)
            | ((with_reducible refine gate_ (.load 39 (.tmp 12)) rfl ?_); refine load_blk rfl 39 (.tmp 12) rfl F rfl (ten x (.slice B1 n1 d1) (.slice B8 n8 d8)) HNi.out.1 _ Try.underlying39 rfl size39 ?_)
            | (go_at_call 17; (with_reducible refine (same_calls HX.out.2.1 HX.out.2.2 HXS.out.1 HXS.out.2 HWi.out HNi.out).mono ?_); rintro e wj ⟨rfl, hb⟩; have Hj := Aside0.mk (Hi.out.then_ hb); clear hb)
            | (go_at_call 19; (with_reducible refine (access_calls Hj.out.tab who).mono ?_); rintro e wk ⟨Ak, ck, rfl, hCk, hck, hb⟩; have Hk := Aside0.mk (Hj.out.then_ hb); have HCk := Aside0.mk (And.intro hCk hck); clear hb hCk hck)
            | (go_at_call 18; (with_reducible refine (In_calls owner HCk.out.1 rfl HCk.out.2 (by have := access_few Hk.out.tab who; omega)).mono ?_); rintro e wm ⟨rfl, hb⟩; have Hm := Aside0.mk (Hk.out.then_ hb); clear hb))
          go_ret
          exact ⟨by rw [HRR.out]; simp, Hz.out.below⟩
end Go.Proofs.Yticoaaddhhiglaa.T
