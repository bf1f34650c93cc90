import Derived.Test.YticoaaddhhiglaaT22
/- The laws by hand: TenantApart (mkT23.py). -/
namespace Go.Proofs.Yticoaaddhhiglaa.T
open Go.RowKit Go.Proofs.Yticoaaddhhiglaa.Q Go.Proofs.YticoaaddhhiglaaW.PrintWords Go.Proofs.YticoaaddhhiglaaW.PrintLast Go.Proofs.YticoaaddhhiglaaW.PrintMore
set_option linter.unusedVariables false
set_option linter.unusedSimpArgs false
/-- A change either changes nothing, or puts one tenant of its name. -/
theorem do_shape (st : St) (c : S27) : (¬ (doT st c).1 = 0 ∧ (doT st c).2 = st) ∨ ((doT st c).1 = 0 ∧ ∃ x, x.f0 = c.f1 ∧ (doT st c).2 = put st x ∧ (look st c.f1 = none → c.f0 = 0)) := by
  by_cases h : (doT st c).1 = 0
  · refine .inr ⟨h, ?_⟩
    have hr := do_range h
    by_cases h0 : c.f0 = 0
    · unfold doT at h ⊢
      rw [if_pos hr, if_pos h0] at h ⊢
      cases hl : look st c.f1 with
      | some x => rw [hl] at h; cases h
      | none =>
        rw [hl] at h
        dsimp only at h ⊢
        by_cases h16 : 16 ≤ st.length
        · rw [if_pos h16] at h; cases h
        · rw [if_neg h16]
          exact ⟨newT c, rfl, rfl, fun _ => h0⟩
    · rw [do_other hr h0] at h ⊢
      cases hl : look st c.f1 with
      | none => rw [hl] at h; cases h
      | some x =>
        rw [hl] at h
        dsimp only at h ⊢
        by_cases he : (changeT x c).1 = 0
        · rw [if_pos he]
          exact ⟨(changeT x c).2, (change_name x c).trans (look_mem hl).2, rfl, fun e => by cases e⟩
        · rw [if_neg he] at h
          exact absurd h he
  · exact .inl ⟨h, turns_not h⟩
theorem getB_names {st : St} {i : Nat} (hs : Sorted st) (h : i < (namesT st).length) : ∃ x, look st (rdOf ByteArray.empty (namesT st) (i : Int)) = some x := by
  have hl : i < st.length := by simpa [namesT] using h
  have e : rdOf ByteArray.empty (namesT st) (i : Int) = (st[i]).f0 := by
    unfold rdOf
    rw [Int.toNat_natCast, List.getD_eq_getElem?_getD, List.getElem?_eq_getElem h]
    simp [namesT]
  rw [e]
  exact ⟨st[i], look_of_mem hs (List.getElem_mem hl)⟩
/-- Another table is left alone. -/
theorem LvW.aside {w0 : World} {D M D2 M2 : Nat} {st st2 : St} {w w' : World} (h : LvW w0 D2 M2 st2 w) (ht : TabG w D M st) (hc : Chg (fun k => k = M) w w') (hne : M2 ≠ M) (hM : w0.heap.size ≤ M) : LvW w0 D2 M2 st2 w' := by
  obtain ⟨G1, h1, _⟩ := ht.ex
  obtain ⟨ma, clk, hMb, _⟩ := h1
  have hsane : Sane w w' := fun k cs t fz hk => hc.block k (heap_lt hk) (fun e => by rw [e, hMb] at hk; cases hk)
  obtain ⟨G, h2, h3⟩ := h.tab.ex
  exact ⟨⟨(hsane _ _ _ _ h.tab.blk).trans h.tab.blk, G, h2.move (hc.block M2 h2.lt hne), h3.sane hsane⟩, Chg.onto h.below (Nat.le_refl _) hc (fun k e => by rw [e]; exact hM), h.hD, h.hM⟩
/-- Do, beside another table. -/
theorem LvW.doX {w0 : World} {D M D2 M2 : Nat} {st st' st2 : St} {w : World} (h : LvW w0 D M st w) (h2 : LvW w0 D2 M2 st2 w) (hne : M2 ≠ M) {c : S27} {r : Int} (hr : doT st c = (r, st')) : Calls Try.prog 14 #[.pointer (some ⟨D, 0, none⟩), .agg (chg c).toArray] w fun e w' => e = .returned (.int .i64 r) ∧ LvW w0 D M st' w' ∧ LvW w0 D2 M2 st2 w' ∧ Sane w w' :=
  (do_calls h.tab c).mono (fun e w' ⟨h1, h3, h4⟩ => by
    rw [hr] at h1 h3
    refine ⟨h1, ⟨h3, Chg.onto h.below (Nat.le_refl _) h4 (fun k e => by rw [e]; exact h.hM), h.hD, h.hM⟩, h2.aside h.tab h4 hne h.hM, fun k cs t fz hk => h4.block k (heap_lt hk) (fun e => ?_)⟩
    obtain ⟨G, h5, _⟩ := h.tab.ex
    obtain ⟨ma, clk, h6, _⟩ := h5
    rw [e, h6] at hk
    cases hk)
/-- Do at a change in a block of its own; cells stay. -/
theorem LvW.doB {w0 : World} {D M : Nat} {st st' : St} {w : World} (h : LvW w0 D M st w) {d : Int} {tn : ByteArray} {k : S23} {lm : S25} {qu ri : Int} {rdr : ByteArray} {r : Int} (hr : doT st ⟨d, tn, k, lm, qu, ri, rdr⟩ = (r, st')) : Calls Try.prog 14 #[.pointer (some ⟨D, 0, none⟩), .agg #[.int .i64 d, .string tn, .int .i64 k.f0, .string k.f1, .int .i64 lm.f0, .int .i64 lm.f1, .int .i64 lm.f2, .int .i64 lm.f3, .int .i64 qu, .int .i64 ri, .string rdr]] (w.alloc (.cells #[.int .i64 d, .string tn, .int .i64 k.f0, .string k.f1, .int .i64 lm.f0, .int .i64 lm.f1, .int .i64 lm.f2, .int .i64 lm.f3, .int .i64 qu, .int .i64 ri, .string rdr] 27)) fun e w' => e = .returned (.int .i64 r) ∧ LvW w0 D M st' w' ∧ Sane w w' := by
  have e : (#[.int .i64 d, .string tn, .int .i64 k.f0, .string k.f1, .int .i64 lm.f0, .int .i64 lm.f1, .int .i64 lm.f2, .int .i64 lm.f3, .int .i64 qu, .int .i64 ri, .string rdr] : Array Value) = (chg ⟨d, tn, k, lm, qu, ri, rdr⟩).toArray := rfl
  rw [e]
  have hb := below_alloc (Below.refl w.heap.size w) (.cells (chg ⟨d, tn, k, lm, qu, ri, rdr⟩).toArray 27)
  exact ((h.then_ hb).doS hr).mono (fun e w' h => ⟨h.1, h.2.1, fun k cs t fz hk => (h.2.2 k cs t fz ((hb.block k (heap_lt hk)).trans hk)).trans (hb.block k (heap_lt hk))⟩)
theorem names2 {w : World} {D M : Nat} {st : St} (h : TabG w D M st) : Calls Try.prog 21 #[.pointer (some ⟨D, 0, none⟩)] w fun e w' => ∃ A c, e = .returned (.slice A (namesT st).length c) ∧ (Kd.string.C w' A (namesT st).length (namesT st) ∧ (namesT st).length ≤ c) ∧ Below w.heap.size w w' :=
  (names_reads h).mono (fun e w' ⟨A, c, h1, h2, h3, _, h5⟩ => ⟨A, c, h1, ⟨h2, h3⟩, h5⟩)
theorem same_callsL {w : World} {x : S39} {n n8 : Nat} (hn : n = x.f1.length) (hn8 : n8 = x.f5.length) (h1 : x.f1.length ≤ 100) (h5 : x.f5.length ≤ 100) {E A1 c1 A8 c8 F B1 d1 B8 d8} (h : Wz w E x A1 n c1 A8 n8 c8) (h' : Wz w F x B1 n d1 B8 n8 d8) :
    Calls Try.prog 17 #[.agg #[.string x.f0, .slice A1 n c1, .int .i64 x.f2.f0, .int .i64 x.f2.f1, .int .i64 x.f2.f2, .int .i64 x.f2.f3, .int .i64 x.f3, .int .i64 x.f4, .slice A8 n8 c8], .agg #[.string x.f0, .slice B1 n d1, .int .i64 x.f2.f0, .int .i64 x.f2.f1, .int .i64 x.f2.f2, .int .i64 x.f2.f3, .int .i64 x.f3, .int .i64 x.f4, .slice B8 n8 d8]] w fun e w' => e = .returned (.bool true) ∧ Below w.heap.size w w' := same_calls hn hn8 h1 h5 h h'
set_option maxHeartbeats 8000000 in
set_option maxRecDepth 100000 in
theorem apart_law {w : World} {A : Option Addr} {cc : Nat} {l : List S27} (c : S27) (hC : k27.C w A l.length l) (hc : l.length ≤ cc) : Calls Try.prog 5 #[.slice A l.length cc, .agg #[.int .i64 c.f0, .string c.f1, .int .i64 c.f2.f0, .string c.f2.f1, .int .i64 c.f3.f0, .int .i64 c.f3.f1, .int .i64 c.f3.f2, .int .i64 c.f3.f3, .int .i64 c.f4, .int .i64 c.f5, .string c.f6]] w fun e w' => e = .returned (.bool true) ∧ Below w.heap.size w w' := by
  have hmax := Kd.C_max hC
  obtain ⟨r, hr⟩ := few_calls (A := A) (c := cc) (l := l) hmax
  obtain ⟨r1, hr1⟩ := few1_calls c
  obtain ⟨n, hn⟩ : ∃ n : Nat, n = l.length := ⟨_, rfl⟩
  rw [← hn] at hmax hr hC hc ⊢
  have HR := Aside0.mk hr
  have HR1 := Aside0.mk hr1
  have HC := Aside0.mk hC
  have HN := Aside0.mk (And.intro hn (And.intro hmax hc))
  clear hr hr1 hn hC hc hmax
  have hcase : r = false ∨ (r = true ∧ r1 = false) ∨ (r = true ∧ r1 = true) := by cases r <;> cases r1 <;> simp
  rcases hcase with rfl | ⟨rfl, rfl⟩ | ⟨rfl, rfl⟩
  iterate 2
    · go_enter Try.func5, Try.ntmps5
      go_wp2_with (first
        | ((with_reducible refine gate_dst (N := 3) rfl ?_); refine box_event ?hg (N := 3) ?hd (cs := (chg c).toArray) (t := 27) ?hr ?_; (case hd => rfl); (case hg => rfl); (case hr => first | (go_simp; done) | (go_simp; rfl)); intro X hX w1 hx1 hb1; have H1 := Aside0.mk (And.intro hb1 hx1); clear hX hx1 hb1)
        | (go_at_call 9; have hmark := H3.out; (with_reducible refine (live_calls _).mono ?_); rintro e w4 ⟨rfl, hb⟩; have H4 := Aside0.mk (below_step H3.out.1 hb); clear hb hmark)
        | (go_at_call 9; (with_reducible refine (live_calls _).mono ?_); rintro e w2 ⟨rfl, hb⟩; have H2 := Aside0.mk (And.intro (below_step H1.out.1 hb) ((hb.block X (heap_lt H1.out.2)).trans H1.out.2)); clear hb)
        | (go_at_call 10; have hmark := H3.out; (with_reducible refine (HR1.out _).mono ?_); rintro e w3b ⟨rfl, hb⟩; have H3b := H3; clear H3; have H3 := Aside0.mk (And.intro (below_step H3b.out.1 hb) ((hb.block X (heap_lt H3b.out.2)).trans H3b.out.2)); clear hb hmark H3b x0 x1 x2 x3 x4 x5 x6 x7 x8 x9 x10; obtain ⟨x0, x1, x2, x3, x4, x5, x6, x7, x8, x9, x10⟩ := cellsX H3.out.2)
        | (go_at_call 10; (with_reducible refine (HR.out _ (Kd.C_below HC.out H2.out.1) HN.out.2.2).mono ?_); rintro e w3 ⟨rfl, hb⟩; have H3 := Aside0.mk (And.intro (below_step H2.out.1 hb) ((hb.block X (heap_lt H2.out.2)).trans H2.out.2)); obtain ⟨x0, x1, x2, x3, x4, x5, x6, x7, x8, x9, x10⟩ := cellsX H3.out.2; clear hb))
      go_ret
      exact ⟨rfl, H4.out⟩
  · go_enter Try.func5, Try.ntmps5
    go_wp2_with (first
      | ((with_reducible refine gate_dst (N := 3) rfl ?_); refine box_event ?hg (N := 3) ?hd (cs := (chg c).toArray) (t := 27) ?hr ?_; (case hd => rfl); (case hg => rfl); (case hr => first | (go_simp; done) | (go_simp; rfl)); intro X hX w1 hx1 hb1; have H1 := Aside0.mk (And.intro hb1 hx1); clear hX hx1 hb1)
      | (go_at_call 9; (with_reducible refine (live_calls _).mono ?_); rintro e w2 ⟨rfl, hb⟩; have H2 := Aside0.mk (And.intro (below_step H1.out.1 hb) ((hb.block X (heap_lt H1.out.2)).trans H1.out.2)); clear hb)
      | (go_at_call 10; have hmark := H3.out; (with_reducible refine (HR1.out _).mono ?_); rintro e w3b ⟨rfl, hb⟩; have H3b := H3; clear H3; have H3 := Aside0.mk (And.intro (below_step H3b.out.1 hb) ((hb.block X (heap_lt H3b.out.2)).trans H3b.out.2)); clear hb hmark H3b x0 x1 x2 x3 x4 x5 x6 x7 x8 x9 x10; obtain ⟨x0, x1, x2, x3, x4, x5, x6, x7, x8, x9, x10⟩ := cellsX H3.out.2)
      | (go_at_call 10; (with_reducible refine (HR.out _ (Kd.C_below HC.out H2.out.1) HN.out.2.2).mono ?_); rintro e w3 ⟨rfl, hb⟩; have H3 := Aside0.mk (And.intro (below_step H2.out.1 hb) ((hb.block X (heap_lt H2.out.2)).trans H2.out.2)); obtain ⟨x0, x1, x2, x3, x4, x5, x6, x7, x8, x9, x10⟩ := cellsX H3.out.2; clear hb)
      | (go_at_call 13; (with_reducible refine (LvW.made _).mono ?_); rintro e w4 ⟨D, M, rfl, h4⟩; have H4 := Aside0.mk (And.intro (show LvW w D M [] w4 from ⟨h4.tab, below_step H3.out.1 h4.below, Nat.le_trans H3.out.1.size h4.hD, Nat.le_trans H3.out.1.size h4.hM⟩) ((h4.below.block X (heap_lt H3.out.2)).trans H3.out.2)); clear h4 x0 x1 x2 x3 x4 x5 x6 x7 x8 x9 x10))
    go_loopg [35] (n + 1) (fun kq v35 wr => ∃ (i : Nat), v35 = .int .i64 i ∧ Aside0 (kq + i = n + 1 ∧ i ≤ n) ∧ Aside0 (∃ st, LvW w D M st wr) ∧ Aside0 (wr.heap[X]? = some (.cells (chg c).toArray 27 (0, 0))))
    case atStart => exact ⟨0, rfl, ⟨by omega⟩, ⟨[], H4.out.1⟩, ⟨H4.out.2⟩⟩
    case round =>
      obtain ⟨i, rfl, HK, HL, HX⟩ := hrel
      obtain ⟨st, hL⟩ := HL.out
      have HL := Aside0.mk hL
      clear hL
      cases gk with
      | zero => have := HK.out; omega
      | succ k1 =>
      by_cases hlt : i < n
      · have hi0 : (0 : Int) ≤ (i : Int) := by omega
        have hi1 : (i : Int) < (n : Int) := by omega
        obtain ⟨ad, hA, x0, x1, x2, x3, x4, x5, x6, x7, x8, x9, x10⟩ := at_T27 (Kd.C_below HC.out HL.out.below) (i : Int) hi0 hi1
        simp only [Int.toNat_natCast] at x0 x1 x2 x3 x4 x5 x6 x7 x8 x9 x10
        have hi2 : (i : Int) + 1 ≤ 9223372036854775807 := by have := HN.out.2.1; omega
        subst hA
        clear hlt
        generalize rd_T27 l (i : Int) = x at *
        obtain ⟨d, tn, k, lm, qu, ri, rdr⟩ := x
        try dsimp only at x0 x1 x2 x3 x4 x5 x6 x7 x8 x9 x10
        obtain ⟨er, st', hdo⟩ : ∃ er st', doT st ⟨d, tn, k, lm, qu, ri, rdr⟩ = (er, st') := ⟨_, _, rfl⟩
        have HDO := Aside0.mk hdo
        clear hdo
        go_wp2_with (first
          | (go_at_call 14; (with_reducible refine (HL.out.doB HDO.out).mono ?_); rintro e w8 ⟨rfl, h8, hs⟩; have H8 := Aside0.mk h8; have HX8 := Aside0.mk ((hs _ _ _ _ HX.out).trans HX.out); clear h8 hs x0 x1 x2 x3 x4 x5 x6 x7 x8 x9 x10))
        go_roundg k1
        case measure => omega
        case rel => exact ⟨i + 1, by first | rfl | (simp; done) | (rw [wrap_id (n := (i : Int) + 1) (by omega) (by omega)]; first | rfl | (simp; done)), ⟨by have := HK.out; omega⟩, ⟨st', H8.out⟩, HX8⟩
      · have hi : i = n := by have := HK.out; omega
        subst hi
        clear hlt
        obtain ⟨d, tn, k, lm, qu, ri, rdr⟩ := c
        obtain ⟨er, st', hdo⟩ : ∃ er st', doT st ⟨d, tn, k, lm, qu, ri, rdr⟩ = (er, st') := ⟨_, _, rfl⟩
        have hsh := do_shape st ⟨d, tn, k, lm, qu, ri, rdr⟩
        rw [hdo] at hsh
        dsimp only at hsh
        have HDO := Aside0.mk hdo
        have HSH := Aside0.mk hsh
        clear hdo hsh
        rename World => wo
        go_wp2_with (first
          | (go_at_call 20; (with_reducible refine (clone_calls HL.out.tab).mono ?_); rintro e w5 ⟨D2, M2, rfl, h5⟩; have H5 := Aside0.mk (HL.out.then_ h5.below); have J5 := Aside0.mk (show LvW w D2 M2 st w5 from ⟨h5.tab, below_step HL.out.below h5.below, Nat.le_trans HL.out.below.size h5.hD, Nat.le_trans HL.out.below.size h5.hM⟩); have HNE := Aside0.mk (show M2 ≠ M from fun e => by have := h5.hM; obtain ⟨G, h6, _⟩ := HL.out.tab.ex; have := h6.lt; omega); have HX5 := Aside0.mk ((h5.below.block X (heap_lt HX.out)).trans HX.out); clear h5)
          | ((with_reducible refine gate_ (.load 27 (.tmp 3)) rfl ?_); refine load_blk rfl 27 (.tmp 3) rfl X rfl (chg ⟨d, tn, k, lm, qu, ri, rdr⟩) HX5.out _ Try.underlying27 rfl size27 ?_)
          | (go_at_call 14; (with_reducible refine (H5.out.doX J5.out HNE.out HDO.out).mono ?_); rintro e w6 ⟨rfl, h6, j6, hs⟩; have H6 := Aside0.mk h6; have J6 := Aside0.mk j6; have HX6 := Aside0.mk ((hs _ _ _ _ HX5.out).trans HX5.out); clear h6 j6 hs)
          | (go_at_call 21; (with_reducible refine (names2 J6.out.tab).mono ?_); rintro e w7 ⟨A7, c7, rfl, hC7, hb⟩; have HC7 := Aside0.mk hC7; have H7 := Aside0.mk (H6.out.then_ hb); have J7 := Aside0.mk (J6.out.then_ hb); have HX7 := Aside0.mk ((hb.block X (heap_lt HX6.out)).trans HX6.out); clear hC7 hb))
        obtain ⟨m, hm⟩ : ∃ m : Nat, m = (namesT st).length := ⟨_, rfl⟩
        rw [← hm] at HC7 ⊢
        have HM := Aside0.mk hm
        have HM16 := Aside0.mk (show m ≤ 16 by have := J7.out.tab.few; omega)
        clear hm
        go_loopg [53] (m + 1) (fun kq v53 wr => ∃ (i : Nat), v53 = .int .i64 i ∧ Aside0 (kq + i = m + 1 ∧ i ≤ m) ∧ Aside0 (LvW w D M st' wr) ∧ Aside0 (LvW w D2 M2 st wr) ∧ Aside0 (Below w7.heap.size w7 wr))
        case atStart => exact ⟨0, rfl, ⟨by omega⟩, H7, J7, ⟨Below.refl _ _⟩⟩
        case round =>
          obtain ⟨i, rfl, HK5, HL5, JL5, HB5⟩ := hrel
          cases gk with
          | zero => have := HK5.out; omega
          | succ k1 =>
          by_cases hlt : i < m
          · have hi0 : (0 : Int) ≤ (i : Int) := by omega
            have hi1 : (i : Int) < (m : Int) := by omega
            obtain ⟨ad, hA, y0⟩ := Kd.at_string (Kd.C_below HC7.out.1 HB5.out) (i : Int) hi0 hi1
            simp only [Int.toNat_natCast] at y0
            obtain ⟨z, hz⟩ := getB_names (i := i) JL5.out.tab.sorted (by have := HM.out; omega)
            have HA := Aside0.mk hA
            obtain ⟨s, hs⟩ : ∃ s, s = rdOf ByteArray.empty (namesT st) (i : Int) := ⟨_, rfl⟩
            rw [← hs] at y0 hz
            clear hlt hs
            subst hA
            obtain ⟨x, hx⟩ : ∃ x, x = getX st s := ⟨_, rfl⟩
            obtain ⟨y, hy⟩ : ∃ y, y = getX st' s := ⟨_, rfl⟩
            obtain ⟨n1, hn1⟩ : ∃ n : Nat, n = x.f1.length := ⟨_, rfl⟩
            obtain ⟨n8, hn8⟩ : ∃ n : Nat, n = x.f5.length := ⟨_, rfl⟩
            have hb1 : getB st s = true := by unfold getB; rw [hz]; rfl
            have hb2 : getB st' s = true := by
              unfold getB
              rcases HSH.out with ⟨_, e⟩ | ⟨_, x', e1, e2, _⟩
              · rw [e, hz]; rfl
              · rw [e2, look_put x' s JL5.out.tab.sorted]
                split
                · rfl
                · rw [hz]; rfl
            have HXX := Aside0.mk (And.intro hx (And.intro hn1 (And.intro hn8 (And.intro hb1 hb2))))
            have HXS := Aside0.mk (show x.f1.length ≤ 100 ∧ x.f5.length ≤ 100 by have := getX_small JL5.out.tab s; rw [← hx] at this; omega)
            have hXc := cellsX ((HB5.out.block X (heap_lt HX7.out)).trans HX7.out)
            by_cases hsame : s = tn ∧ er = 0
            · obtain ⟨e1, e2⟩ := hsame
              subst e1; subst e2
              obtain ⟨p1, hp1⟩ : ∃ n : Nat, n = y.f1.length := ⟨_, rfl⟩
              obtain ⟨p8, hp8⟩ : ∃ n : Nat, n = y.f5.length := ⟨_, rfl⟩
              have HYY := Aside0.mk (And.intro hy (And.intro hp1 hp8))
              clear hx hn1 hn8 hb1 hb2 hz hy hp1 hp8 hXc
              go_wp2_with (first
                | (go_at_call 15; have hmark := Hb.out; (with_reducible refine (get2_calls Hb.out.tab s).mono ?_); rw [← HYY.out.1, ← HYY.out.2.1, ← HYY.out.2.2, HXX.out.2.2.2.2]; rintro e wc ⟨B1, d1, B8, d8, rfl, hr, hb⟩; have Hc := Aside0.mk (Hb.out.then_ hb); have Jc := Aside0.mk (Jb.out.then_ hb); have HBc := Aside0.mk (below_step HBb.out hb); have HWc := Aside0.mk (HWb.out.sane (sane_below hb)); have HRc := Aside0.mk hr; clear hr hb hmark)
                | (go_at_call 15; (with_reducible refine (get2_calls JL5.out.tab s).mono ?_); rw [← HXX.out.1, ← HXX.out.2.1, ← HXX.out.2.2.1, HXX.out.2.2.2.1]; rintro e w8 ⟨A1, c1, A8, c8, rfl, hr, hb⟩; have H8 := Aside0.mk (HL5.out.then_ hb); have J8 := Aside0.mk (JL5.out.then_ hb); have HB8 := Aside0.mk (below_step HB5.out hb); have HR8 := Aside0.mk hr; clear hr hb)
                | ((with_reducible refine gate_dst (N := 12) rfl ?_); refine box_event ?hg (N := 12) ?hd (cs := (ten z39 (.slice none 0 0) (.slice none 0 0)).toArray) (t := 39) ?hr ?_; (case hd => rfl); (case hg => rfl); (case hr => first | (go_simp; done) | (go_simp; rfl)); intro E hE w9 h9 hb9; have HE9 := Aside0.mk h9; have HEG := Aside0.mk (show w8.heap.size ≤ E by omega); have HB9 := Aside0.mk hb9; clear hE h9 hb9)
                | ((with_reducible refine gate_ (.store 39 (.tmp 12) (.tmp 61)) rfl ?_); refine store_blk rfl 39 (.tmp 12) (.tmp 61) rfl E (ten z39 (.slice none 0 0) (.slice none 0 0)) (ten x (.slice A1 n1 c1) (.slice A8 n8 c8)) rfl rfl HE9.out rfl size39 (ten_one _ rfl rfl) ?_; intro wb ha hka hba; have Hb := Aside0.mk (H8.out.then_ (hba w8 HEG.out HB9.out)); have Jb := Aside0.mk (J8.out.then_ (hba w8 HEG.out HB9.out)); have HBb := Aside0.mk (below_step HB8.out (hba w8 HEG.out HB9.out)); have HWb := Aside0.mk (wz_of ha (Kd.R_below HR8.out.1 (hba w8 HEG.out HB9.out)) (Kd.R_below HR8.out.2 (hba w8 HEG.out HB9.out))); clear ha hka hba)
                | ((with_reducible refine gate_dst (N := 14) rfl ?_); refine box_event ?hg (N := 14) ?hd (cs := (ten z39 (.slice none 0 0) (.slice none 0 0)).toArray) (t := 39) ?hr ?_; (case hd => rfl); (case hg => rfl); (case hr => first | (go_simp; done) | (go_simp; rfl)); intro F hF wh h9 hb9; have HFh := Aside0.mk h9; have HFG := Aside0.mk (show wc.heap.size ≤ F by omega); have HBh := Aside0.mk hb9; clear hF h9 hb9)
                | ((with_reducible refine gate_ (.store 39 (.tmp 14) (.tmp 67)) rfl ?_); refine store_blk rfl 39 (.tmp 14) (.tmp 67) rfl F (ten z39 (.slice none 0 0) (.slice none 0 0)) (ten y (.slice B1 p1 d1) (.slice B8 p8 d8)) rfl rfl HFh.out rfl size39 (ten_one _ rfl rfl) ?_; intro wd ha hka hba; have hbb := hba wc HFG.out HBh.out; have Hd := Aside0.mk (Hc.out.then_ hbb); have Jd := Aside0.mk (Jc.out.then_ hbb); have HBd := Aside0.mk (below_step HBc.out hbb); have HWd := Aside0.mk (HWc.out.sane (sane_below hbb)); have HNd := Aside0.mk (wz_of ha (Kd.R_below HRc.out.1 hbb) (Kd.R_below HRc.out.2 hbb)); have xx1 := (cellsX ((HBd.out.block X (heap_lt HX7.out)).trans HX7.out)).2.1; (try dsimp only at xx1); clear ha hka hba hbb y0))
              go_roundg k1
              case measure => omega
              case rel => exact ⟨i + 1, by first | rfl | (simp; done) | (rw [wrap_id (n := (i : Int) + 1) (by omega) (by have := HM16.out; omega)]; first | rfl | (simp; done)), ⟨by have := HK5.out; omega⟩, Hd, Jd, HBd⟩
            · have hyx : y = x := by
                rw [hy, hx]
                unfold getX
                rcases HSH.out with ⟨_, e⟩ | ⟨e0, x', e1, e2, _⟩
                · rw [e]
                · rw [e2, look_put x' s JL5.out.tab.sorted, if_neg (fun e => hsame ⟨e.trans e1, e0⟩)]
              subst hyx
              have hp1 := hn1
              have hp8 := hn8
              have HYY := Aside0.mk (And.intro hy (And.intro hn1 hn8))
              by_cases e1 : s = tn
              · subst e1
                have hne : (er != 0) = true := by simp only [bne_iff_ne, ne_eq]; exact fun e => hsame ⟨rfl, e⟩
                clear hx hn1 hn8 hb1 hb2 hz hy hp1 hp8 hXc hsame
                go_wp2_with (first
                | (go_at_call 15; have hmark := Hb.out; (with_reducible refine (get2_calls Hb.out.tab s).mono ?_); rw [← HYY.out.1, ← HYY.out.2.1, ← HYY.out.2.2, HXX.out.2.2.2.2]; rintro e wc ⟨B1, d1, B8, d8, rfl, hr, hb⟩; have Hc := Aside0.mk (Hb.out.then_ hb); have Jc := Aside0.mk (Jb.out.then_ hb); have HBc := Aside0.mk (below_step HBb.out hb); have HWc := Aside0.mk (HWb.out.sane (sane_below hb)); have HRc := Aside0.mk hr; clear hr hb hmark)
                | (go_at_call 15; (with_reducible refine (get2_calls JL5.out.tab s).mono ?_); rw [← HXX.out.1, ← HXX.out.2.1, ← HXX.out.2.2.1, HXX.out.2.2.2.1]; rintro e w8 ⟨A1, c1, A8, c8, rfl, hr, hb⟩; have H8 := Aside0.mk (HL5.out.then_ hb); have J8 := Aside0.mk (JL5.out.then_ hb); have HB8 := Aside0.mk (below_step HB5.out hb); have HR8 := Aside0.mk hr; clear hr hb)
                | ((with_reducible refine gate_dst (N := 12) rfl ?_); refine box_event ?hg (N := 12) ?hd (cs := (ten z39 (.slice none 0 0) (.slice none 0 0)).toArray) (t := 39) ?hr ?_; (case hd => rfl); (case hg => rfl); (case hr => first | (go_simp; done) | (go_simp; rfl)); intro E hE w9 h9 hb9; have HE9 := Aside0.mk h9; have HEG := Aside0.mk (show w8.heap.size ≤ E by omega); have HB9 := Aside0.mk hb9; clear hE h9 hb9)
                | ((with_reducible refine gate_ (.store 39 (.tmp 12) (.tmp 61)) rfl ?_); refine store_blk rfl 39 (.tmp 12) (.tmp 61) rfl E (ten z39 (.slice none 0 0) (.slice none 0 0)) (ten y (.slice A1 n1 c1) (.slice A8 n8 c8)) rfl rfl HE9.out rfl size39 (ten_one _ rfl rfl) ?_; intro wb ha hka hba; have Hb := Aside0.mk (H8.out.then_ (hba w8 HEG.out HB9.out)); have Jb := Aside0.mk (J8.out.then_ (hba w8 HEG.out HB9.out)); have HBb := Aside0.mk (below_step HB8.out (hba w8 HEG.out HB9.out)); have HWb := Aside0.mk (wz_of ha (Kd.R_below HR8.out.1 (hba w8 HEG.out HB9.out)) (Kd.R_below HR8.out.2 (hba w8 HEG.out HB9.out))); clear ha hka hba)
                | ((with_reducible refine gate_dst (N := 14) rfl ?_); refine box_event ?hg (N := 14) ?hd (cs := (ten z39 (.slice none 0 0) (.slice none 0 0)).toArray) (t := 39) ?hr ?_; (case hd => rfl); (case hg => rfl); (case hr => first | (go_simp; done) | (go_simp; rfl)); intro F hF wh h9 hb9; have HFh := Aside0.mk h9; have HFG := Aside0.mk (show wc.heap.size ≤ F by omega); have HBh := Aside0.mk hb9; clear hF h9 hb9)
                | ((with_reducible refine gate_ (.store 39 (.tmp 14) (.tmp 67)) rfl ?_); refine store_blk rfl 39 (.tmp 14) (.tmp 67) rfl F (ten z39 (.slice none 0 0) (.slice none 0 0)) (ten y (.slice B1 n1 d1) (.slice B8 n8 d8)) rfl rfl HFh.out rfl size39 (ten_one _ rfl rfl) ?_; intro wd ha hka hba; have hbb := hba wc HFG.out HBh.out; have Hd := Aside0.mk (Hc.out.then_ hbb); have Jd := Aside0.mk (Jc.out.then_ hbb); have HBd := Aside0.mk (below_step HBc.out hbb); have HWd := Aside0.mk (HWc.out.sane (sane_below hbb)); have HNd := Aside0.mk (wz_of ha (Kd.R_below HRc.out.1 hbb) (Kd.R_below HRc.out.2 hbb)); have xx1 := (cellsX ((HBd.out.block X (heap_lt HX7.out)).trans HX7.out)).2.1; (try dsimp only at xx1); obtain ⟨a0, a1, a2, a3, a4, a5, a6, a7, a8⟩ := cellsT HWd.out.1; obtain ⟨b0, b1, b2, b3, b4, b5, b6, b7, b8⟩ := cellsT HNd.out.1; clear ha hka hba hbb y0)
                | (go_at_call 17; (with_reducible refine (same_callsL HXX.out.2.1 HXX.out.2.2.1 HXS.out.1 HXS.out.2 HWd.out HNd.out).mono ?_); rintro e we ⟨rfl, hb⟩; have He := Aside0.mk (Hd.out.then_ hb); have Je := Aside0.mk (Jd.out.then_ hb); have HBe := Aside0.mk (below_step HBd.out hb); clear hb))
                go_roundg k1
                case measure => omega
                case rel => exact ⟨i + 1, by first | rfl | (simp; done) | (rw [wrap_id (n := (i : Int) + 1) (by omega) (by have := HM16.out; omega)]; first | rfl | (simp; done)), ⟨by have := HK5.out; omega⟩, He, Je, HBe⟩
              · have hne : (s.toList == tn.toList) = false := beq_false_of_ne (str_beq e1)
                clear hx hn1 hn8 hb1 hb2 hz hy hp1 hp8 hXc hsame e1
                go_wp2_with (first
                | (go_at_call 15; have hmark := Hb.out; (with_reducible refine (get2_calls Hb.out.tab s).mono ?_); rw [← HYY.out.1, ← HYY.out.2.1, ← HYY.out.2.2, HXX.out.2.2.2.2]; rintro e wc ⟨B1, d1, B8, d8, rfl, hr, hb⟩; have Hc := Aside0.mk (Hb.out.then_ hb); have Jc := Aside0.mk (Jb.out.then_ hb); have HBc := Aside0.mk (below_step HBb.out hb); have HWc := Aside0.mk (HWb.out.sane (sane_below hb)); have HRc := Aside0.mk hr; clear hr hb hmark)
                | (go_at_call 15; (with_reducible refine (get2_calls JL5.out.tab s).mono ?_); rw [← HXX.out.1, ← HXX.out.2.1, ← HXX.out.2.2.1, HXX.out.2.2.2.1]; rintro e w8 ⟨A1, c1, A8, c8, rfl, hr, hb⟩; have H8 := Aside0.mk (HL5.out.then_ hb); have J8 := Aside0.mk (JL5.out.then_ hb); have HB8 := Aside0.mk (below_step HB5.out hb); have HR8 := Aside0.mk hr; clear hr hb)
                | ((with_reducible refine gate_dst (N := 12) rfl ?_); refine box_event ?hg (N := 12) ?hd (cs := (ten z39 (.slice none 0 0) (.slice none 0 0)).toArray) (t := 39) ?hr ?_; (case hd => rfl); (case hg => rfl); (case hr => first | (go_simp; done) | (go_simp; rfl)); intro E hE w9 h9 hb9; have HE9 := Aside0.mk h9; have HEG := Aside0.mk (show w8.heap.size ≤ E by omega); have HB9 := Aside0.mk hb9; clear hE h9 hb9)
                | ((with_reducible refine gate_ (.store 39 (.tmp 12) (.tmp 61)) rfl ?_); refine store_blk rfl 39 (.tmp 12) (.tmp 61) rfl E (ten z39 (.slice none 0 0) (.slice none 0 0)) (ten y (.slice A1 n1 c1) (.slice A8 n8 c8)) rfl rfl HE9.out rfl size39 (ten_one _ rfl rfl) ?_; intro wb ha hka hba; have Hb := Aside0.mk (H8.out.then_ (hba w8 HEG.out HB9.out)); have Jb := Aside0.mk (J8.out.then_ (hba w8 HEG.out HB9.out)); have HBb := Aside0.mk (below_step HB8.out (hba w8 HEG.out HB9.out)); have HWb := Aside0.mk (wz_of ha (Kd.R_below HR8.out.1 (hba w8 HEG.out HB9.out)) (Kd.R_below HR8.out.2 (hba w8 HEG.out HB9.out))); clear ha hka hba)
                | ((with_reducible refine gate_dst (N := 14) rfl ?_); refine box_event ?hg (N := 14) ?hd (cs := (ten z39 (.slice none 0 0) (.slice none 0 0)).toArray) (t := 39) ?hr ?_; (case hd => rfl); (case hg => rfl); (case hr => first | (go_simp; done) | (go_simp; rfl)); intro F hF wh h9 hb9; have HFh := Aside0.mk h9; have HFG := Aside0.mk (show wc.heap.size ≤ F by omega); have HBh := Aside0.mk hb9; clear hF h9 hb9)
                | ((with_reducible refine gate_ (.store 39 (.tmp 14) (.tmp 67)) rfl ?_); refine store_blk rfl 39 (.tmp 14) (.tmp 67) rfl F (ten z39 (.slice none 0 0) (.slice none 0 0)) (ten y (.slice B1 n1 d1) (.slice B8 n8 d8)) rfl rfl HFh.out rfl size39 (ten_one _ rfl rfl) ?_; intro wd ha hka hba; have hbb := hba wc HFG.out HBh.out; have Hd := Aside0.mk (Hc.out.then_ hbb); have Jd := Aside0.mk (Jc.out.then_ hbb); have HBd := Aside0.mk (below_step HBc.out hbb); have HWd := Aside0.mk (HWc.out.sane (sane_below hbb)); have HNd := Aside0.mk (wz_of ha (Kd.R_below HRc.out.1 hbb) (Kd.R_below HRc.out.2 hbb)); have xx1 := (cellsX ((HBd.out.block X (heap_lt HX7.out)).trans HX7.out)).2.1; (try dsimp only at xx1); obtain ⟨a0, a1, a2, a3, a4, a5, a6, a7, a8⟩ := cellsT HWd.out.1; obtain ⟨b0, b1, b2, b3, b4, b5, b6, b7, b8⟩ := cellsT HNd.out.1; clear ha hka hba hbb y0)
                | (go_at_call 17; (with_reducible refine (same_callsL HXX.out.2.1 HXX.out.2.2.1 HXS.out.1 HXS.out.2 HWd.out HNd.out).mono ?_); rintro e we ⟨rfl, hb⟩; have He := Aside0.mk (Hd.out.then_ hb); have Je := Aside0.mk (Jd.out.then_ hb); have HBe := Aside0.mk (below_step HBd.out hb); clear hb))
                go_roundg k1
                case measure => omega
                case rel => exact ⟨i + 1, by first | rfl | (simp; done) | (rw [wrap_id (n := (i : Int) + 1) (by omega) (by have := HM16.out; omega)]; first | rfl | (simp; done)), ⟨by have := HK5.out; omega⟩, He, Je, HBe⟩
          · have hi : i = m := by have := HK5.out; omega
            subst hi
            clear hlt
            obtain ⟨p, hp⟩ : ∃ p : Nat, p = (namesT st').length := ⟨_, rfl⟩
            have HP := Aside0.mk hp
            have HXL := Aside0.mk ((HB5.out.block X (heap_lt HX7.out)).trans HX7.out)
            have hlen : p = i ∨ (p = i + 1 ∧ d = 0 ∧ er = 0) := by
              have h1 := HM.out
              rcases HSH.out with ⟨_, e⟩ | ⟨e0, x', e1, e2, e3⟩
              · left; rw [hp, h1, e]
              · have hl := put_len JL5.out.tab.sorted x'
                have h2 : (namesT st').length = (namesT st).length + (if look st x'.f0 = none then 1 else 0) := by simp [namesT, e2, hl]
                rw [e1] at h2
                by_cases hq : look st tn = none
                · rw [if_pos hq] at h2
                  exact .inr ⟨by omega, e3 hq, e0⟩
                · rw [if_neg hq] at h2
                  left; omega
            clear hp
            rcases hlen with hpe | ⟨hpe, hd, hee⟩
            · have q1 : ((p : Int) == (i : Int)) = true := by simp [hpe]
              clear hpe
              go_wp2_with (first
                | (go_at_call 21; have hmark := Ha.out; (with_reducible refine (names2 Ja.out.tab).mono ?_); rw [← HM.out]; rintro e wb ⟨Ab, cb, rfl, hCb, hb⟩; have Hb := Aside0.mk (Ha.out.then_ hb); clear hCb hb hmark)
                | (go_at_call 21; (with_reducible refine (names2 HL5.out.tab).mono ?_); rw [← HP.out]; rintro e wa ⟨Aa, ca, rfl, hCa, hb⟩; have Ha := Aside0.mk (HL5.out.then_ hb); have Ja := Aside0.mk (JL5.out.then_ hb); clear hCa hb))
              go_ret
              exact ⟨rfl, Hb.out.below⟩
            · subst hd; subst hee
              have q1 : ((p : Int) == (i : Int)) = false := by rw [beq_eq_false_iff_ne]; omega
              have q2 : wrap64 ((i : Int) + 1) = (p : Int) := by unfold wrap64; have := HM16.out; omega
              clear hpe
              go_wp2_with (first
                | (go_at_call 21; have hmark := Hc.out; (with_reducible refine (names2 Jc.out.tab).mono ?_); rw [← HM.out]; rintro e wd ⟨Ad, cd, rfl, hCd, hb⟩; have Hd := Aside0.mk (Hc.out.then_ hb); have hxx := cellsX ((hb.block X (heap_lt HXc.out)).trans HXc.out); have xx0 := hxx.1; (try dsimp only at xx0); clear hCd hb hmark hxx)
                | (go_at_call 21; have hmark := Hb.out; (with_reducible refine (names2 Hb.out.tab).mono ?_); rw [← HP.out]; rintro e wc ⟨Ac, c9, rfl, hCc, hb⟩; have Hc := Aside0.mk (Hb.out.then_ hb); have Jc := Aside0.mk (Jb.out.then_ hb); have HXc := Aside0.mk ((hb.block X (heap_lt HXb.out)).trans HXb.out); clear hCc hb hmark)
                | (go_at_call 21; have hmark := Ha.out; (with_reducible refine (names2 Ja.out.tab).mono ?_); rw [← HM.out]; rintro e wb ⟨Ab, cb, rfl, hCb, hb⟩; have Hb := Aside0.mk (Ha.out.then_ hb); have Jb := Aside0.mk (Ja.out.then_ hb); have HXb := Aside0.mk ((hb.block X (heap_lt HXa.out)).trans HXa.out); clear hCb hb hmark)
                | (go_at_call 21; (with_reducible refine (names2 HL5.out.tab).mono ?_); rw [← HP.out]; rintro e wa ⟨Aa, ca, rfl, hCa, hb⟩; have Ha := Aside0.mk (HL5.out.then_ hb); have Ja := Aside0.mk (JL5.out.then_ hb); have HXa := Aside0.mk ((hb.block X (heap_lt HXL.out)).trans HXL.out); clear hCa hb))
              go_ret
              exact ⟨rfl, Hd.out.below⟩
end Go.Proofs.Yticoaaddhhiglaa.T
