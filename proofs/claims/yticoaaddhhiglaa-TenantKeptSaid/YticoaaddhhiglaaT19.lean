import Derived.Test.YticoaaddhhiglaaTF
import Derived.Test.YticoaaddhhiglaaT18
/- The laws by hand: TenantKept (mkT19.py). -/
namespace Go.Proofs.Yticoaaddhhiglaa.T
open Go.RowKit Go.Proofs.Yticoaaddhhiglaa.Q Go.Proofs.YticoaaddhhiglaaW.PrintWords Go.Proofs.YticoaaddhhiglaaW.PrintLast Go.Proofs.YticoaaddhhiglaaW.PrintMore
set_option linter.unusedVariables false
set_option linter.unusedSimpArgs false
theorem names_rd {st : St} {i : Nat} (h : i < (namesT st).length) : ∃ hi : i < st.length, rdOf ByteArray.empty (namesT st) (i : Int) = (st[i]).f0 := by
  have hl : i < st.length := by simpa [namesT] using h
  refine ⟨hl, ?_⟩
  unfold rdOf
  rw [Int.toNat_natCast, List.getD_eq_getElem?_getD, List.getElem?_eq_getElem h]
  simp [namesT]
theorem names_look {st : St} (hs : Sorted st) {i : Nat} (h : i < (namesT st).length) : ∃ x, look st (rdOf ByteArray.empty (namesT st) (i : Int)) = some x ∧ x.f0 = rdOf ByteArray.empty (namesT st) (i : Int) := by
  obtain ⟨hi, e⟩ := names_rd h
  rw [e]
  exact ⟨st[i], look_of_mem hs (List.getElem_mem hi), rfl⟩
theorem names_lt {st : St} (hs : Sorted st) {i : Nat} (h : i + 1 < (namesT st).length) : Lt (rdOf ByteArray.empty (namesT st) (i : Int)) (rdOf ByteArray.empty (namesT st) ((i + 1 : Nat) : Int)) := by
  obtain ⟨hi, e⟩ := names_rd (st := st) (i := i) (by omega)
  obtain ⟨hi', e'⟩ := names_rd h
  rw [e, e']
  exact List.pairwise_iff_getElem.1 hs i (i + 1) hi hi' (by omega)
/-- Do at a change in a block of its own. -/
theorem LvW.doA {w0 : World} {D M : Nat} {st st' : St} {w : World} (h : LvW w0 D M st w) {d : Int} {tn : ByteArray} {k : S23} {lm : S25} {qu ri : Int} {rdr : ByteArray} {r : Int} (hr : doT st ⟨d, tn, k, lm, qu, ri, rdr⟩ = (r, st')) : Calls Try.prog 14 #[.pointer (some ⟨D, 0, none⟩), .agg #[.int .i64 d, .string tn, .int .i64 k.f0, .string k.f1, .int .i64 lm.f0, .int .i64 lm.f1, .int .i64 lm.f2, .int .i64 lm.f3, .int .i64 qu, .int .i64 ri, .string rdr]] (w.alloc (.cells #[.int .i64 d, .string tn, .int .i64 k.f0, .string k.f1, .int .i64 lm.f0, .int .i64 lm.f1, .int .i64 lm.f2, .int .i64 lm.f3, .int .i64 qu, .int .i64 ri, .string rdr] 27)) fun e w' => e = .returned (.int .i64 r) ∧ LvW w0 D M st' w' ∧ w'.heap[w.heap.size]? = some (.cells (chg ⟨d, tn, k, lm, qu, ri, rdr⟩).toArray 27 (0, 0)) := by
  have e : (#[.int .i64 d, .string tn, .int .i64 k.f0, .string k.f1, .int .i64 lm.f0, .int .i64 lm.f1, .int .i64 lm.f2, .int .i64 lm.f3, .int .i64 qu, .int .i64 ri, .string rdr] : Array Value) = (chg ⟨d, tn, k, lm, qu, ri, rdr⟩).toArray := rfl
  rw [e]
  have h' := h.then_ (below_alloc (Below.refl w.heap.size w) (.cells (chg ⟨d, tn, k, lm, qu, ri, rdr⟩).toArray 27))
  refine (do_calls h'.tab ⟨d, tn, k, lm, qu, ri, rdr⟩).mono (fun e w' ⟨h1, h2, h3⟩ => ?_)
  rw [hr] at h1 h2
  refine ⟨h1, ⟨h2, Chg.onto h'.below (Nat.le_refl _) h3 (fun k e => by rw [e]; exact h'.hM), h.hD, h.hM⟩, (h3.block _ (heap_lt (heap_alloc_new _ _)) (fun e => ?_)).trans (heap_alloc_new _ _)⟩
  obtain ⟨G, h4, _⟩ := h.tab.ex
  have := h4.lt
  omega
set_option maxHeartbeats 4000000 in
set_option maxRecDepth 100000 in
theorem kept_law {w : World} {A : Option Addr} {c : Nat} {l : List S27} (hC : k27.C w A l.length l) (hc : l.length ≤ c) : Calls Try.prog 7 #[.slice A l.length c] w fun e w' => e = .returned (.bool true) ∧ Below w.heap.size w w' := by
  have hmax := Kd.C_max hC
  obtain ⟨r, hr⟩ := few_calls (A := A) (c := c) (l := l) hmax
  obtain ⟨n, hn⟩ : ∃ n : Nat, n = l.length := ⟨_, rfl⟩
  rw [← hn] at hmax hr hC hc ⊢
  have HR := Aside0.mk hr
  have HC := Aside0.mk hC
  have HN := Aside0.mk (And.intro hn (And.intro hmax hc))
  clear hr hn hC hc hmax
  cases r
  · go_enter Try.func7, Try.ntmps7
    go_wp2_with (first
      | (go_at_call 9; have hmark := H3.out; (with_reducible refine (live_calls _).mono ?_); rintro e w4 ⟨rfl, hb⟩; have H4 := Aside0.mk (below_step H3.out hb); clear hb hmark)
      | (go_at_call 9; (with_reducible refine (live_calls _).mono ?_); rintro e w2 ⟨rfl, hb⟩; have H2 := Aside0.mk hb; clear hb)
      | (go_at_call 10; (with_reducible refine (HR.out _ (Kd.C_below HC.out H2.out) HN.out.2.2).mono ?_); rintro e w3 ⟨rfl, hb⟩; have H3 := Aside0.mk (below_step H2.out hb); clear hb))
    go_ret
    exact ⟨rfl, H4.out⟩
  · go_enter Try.func7, Try.ntmps7
    go_wp2_with (first
      | (go_at_call 9; (with_reducible refine (live_calls _).mono ?_); rintro e w2 ⟨rfl, hb⟩; have H2 := Aside0.mk hb; clear hb)
      | (go_at_call 10; (with_reducible refine (HR.out _ (Kd.C_below HC.out H2.out) HN.out.2.2).mono ?_); rintro e w3 ⟨rfl, hb⟩; have H3 := Aside0.mk (below_step H2.out hb); clear hb)
      | (go_at_call 13; (with_reducible refine (LvW.made _).mono ?_); rintro e w4 ⟨D, M, rfl, h4⟩; have H4 := Aside0.mk (show LvW w D M [] w4 from ⟨h4.tab, below_step H3.out h4.below, Nat.le_trans H3.out.size h4.hD, Nat.le_trans H3.out.size h4.hM⟩); clear h4))
    go_loopg [26] (n + 1) (fun kq v26 wr => ∃ (i : Nat), v26 = .int .i64 i ∧ Aside0 (kq + i = n + 1 ∧ i ≤ n) ∧ Aside0 (∃ st, LvW w D M st wr ∧ Uniq st))
    case atStart => exact ⟨0, rfl, ⟨by omega⟩, ⟨[], H4.out, fun x h => by cases h⟩⟩
    case round =>
      obtain ⟨i, rfl, HK, HL⟩ := hrel
      obtain ⟨st, hL, hU⟩ := HL.out
      have HL := Aside0.mk hL
      have HU := Aside0.mk hU
      clear hL hU
      cases gk with
      | zero => have := HK.out; omega
      | succ k1 =>
      by_cases hlt : i < n
      · have hi0 : (0 : Int) ≤ (i : Int) := by omega
        have hi1 : (i : Int) < (n : Int) := by omega
        obtain ⟨ad, hA, x0, x1, x2, x3, x4, x5, x6, x7, x8, x9, x10⟩ := at_T27 (Kd.C_below HC.out HL.out.below) (i : Int) hi0 hi1
        simp only [Int.toNat_natCast] at x0 x1 x2 x3 x4 x5 x6 x7 x8 x9 x10
        have hi2 : (i : Int) + 1 ≤ 9223372036854775807 := by have := HN.out.2.1; omega
        subst hA
        clear hlt
        generalize rd_T27 l (i : Int) = x at *
        obtain ⟨d, tn, k, lm, qu, ri, rdr⟩ := x
        try dsimp only at x0 x1 x2 x3 x4 x5 x6 x7 x8 x9 x10
        obtain ⟨x, hx⟩ : ∃ x : S27, x = ⟨d, tn, k, lm, qu, ri, rdr⟩ := ⟨_, rfl⟩
        obtain ⟨er, st', hdo⟩ : ∃ er st', doT st x = (er, st') := ⟨_, _, rfl⟩
        have HDO := Aside0.mk (show doT st ⟨d, tn, k, lm, qu, ri, rdr⟩ = (er, st') by rw [← hx]; exact hdo)
        have HU' := Aside0.mk (show Uniq st' by have := uniq_do (c := x) HU.out; rw [hdo] at this; exact this)
        by_cases he : er = 0
        · subst he
          have hdk := do_key HL.out.tab.sorted HU.out (c := x) (by rw [hdo])
          have hrg := right_range (do_range (st := st) (c := x) (by rw [hdo]))
          rw [hdo, hx] at hdk
          rw [hx] at hrg
          dsimp only at hdk hrg
          have HRG := Aside0.mk hrg
          obtain ⟨ks, kb, hkt⟩ : ∃ ks kb, keyT st' tn k.f0 = (ks, kb) := ⟨_, _, rfl⟩
          have HKT := Aside0.mk hkt
          rw [hkt] at hdk
          have HDK := Aside0.mk hdk
          clear hdo hdk hrg hkt hx
          by_cases d2 : d = 2
          · have hkb : kb = false := HDK.out.1 d2
            subst hkb; subst d2
            go_wp2_with (first
            | (go_at_call 14; (with_reducible refine (HL.out.doA HDO.out).mono ?_); rintro e w8 ⟨rfl, h8, hx8⟩; have H8 := Aside0.mk h8; have HX8 := Aside0.mk hx8; clear x0 x1 x2 x3 x4 x5 x6 x7 x8 x9 x10; obtain ⟨x0, x1, x2, x3, x4, x5, x6, x7, x8, x9, x10⟩ := cellsX hx8; (try dsimp only at x0 x1 x2 x3 x4 x5 x6 x7 x8 x9 x10); clear h8 hx8)
            | (go_at_call 22; (with_reducible refine (key_calls H8.out.tab tn k.f0).mono ?_); rintro e w9 ⟨rfl, hb⟩; rw [HKT.out]; have H9 := Aside0.mk (H8.out.then_ hb); clear x0 x1 x2 x3 x4 x5 x6 x7 x8 x9 x10; obtain ⟨x0, x1, x2, x3, x4, x5, x6, x7, x8, x9, x10⟩ := cellsX ((hb.block _ (heap_lt HX8.out)).trans HX8.out); (try dsimp only at x0 x1 x2 x3 x4 x5 x6 x7 x8 x9 x10); clear hb))
            go_roundg k1
            case measure => omega
            case rel => exact ⟨i + 1, by first | rfl | (simp; done) | (rw [wrap_id (n := (i : Int) + 1) (by omega) (by omega)]; first | rfl | (simp; done)), ⟨by have := HK.out; omega⟩, ⟨st', H9.out, HU'.out⟩⟩
          · by_cases d1 : d = 1
            · have hkb := HDK.out.2 (.inl d1)
              have hk1 : ks = k.f1 := congrArg Prod.fst hkb
              have hk2 : kb = true := congrArg Prod.snd hkb
              subst hk1; subst hk2; subst d1
              clear hkb d2
              go_wp2_with (first
              | (go_at_call 14; (with_reducible refine (HL.out.doA HDO.out).mono ?_); rintro e w8 ⟨rfl, h8, hx8⟩; have H8 := Aside0.mk h8; have HX8 := Aside0.mk hx8; clear x0 x1 x2 x3 x4 x5 x6 x7 x8 x9 x10; obtain ⟨x0, x1, x2, x3, x4, x5, x6, x7, x8, x9, x10⟩ := cellsX hx8; (try dsimp only at x0 x1 x2 x3 x4 x5 x6 x7 x8 x9 x10); clear h8 hx8)
              | (go_at_call 22; (with_reducible refine (key_calls H8.out.tab tn k.f0).mono ?_); rintro e w9 ⟨rfl, hb⟩; rw [HKT.out]; have H9 := Aside0.mk (H8.out.then_ hb); clear x0 x1 x2 x3 x4 x5 x6 x7 x8 x9 x10; obtain ⟨x0, x1, x2, x3, x4, x5, x6, x7, x8, x9, x10⟩ := cellsX ((hb.block _ (heap_lt HX8.out)).trans HX8.out); (try dsimp only at x0 x1 x2 x3 x4 x5 x6 x7 x8 x9 x10); clear hb))
              go_roundg k1
              case measure => omega
              case rel => exact ⟨i + 1, by first | rfl | (simp; done) | (rw [wrap_id (n := (i : Int) + 1) (by omega) (by omega)]; first | rfl | (simp; done)), ⟨by have := HK.out; omega⟩, ⟨st', H9.out, HU'.out⟩⟩
            · by_cases d0 : d = 0
              · have hkb := HDK.out.2 (.inr d0)
                have hk1 : ks = k.f1 := congrArg Prod.fst hkb
                have hk2 : kb = true := congrArg Prod.snd hkb
                subst hk1; subst hk2; subst d0
                clear hkb d1 d2
                go_wp2_with (first
                | (go_at_call 14; (with_reducible refine (HL.out.doA HDO.out).mono ?_); rintro e w8 ⟨rfl, h8, hx8⟩; have H8 := Aside0.mk h8; have HX8 := Aside0.mk hx8; clear x0 x1 x2 x3 x4 x5 x6 x7 x8 x9 x10; obtain ⟨x0, x1, x2, x3, x4, x5, x6, x7, x8, x9, x10⟩ := cellsX hx8; (try dsimp only at x0 x1 x2 x3 x4 x5 x6 x7 x8 x9 x10); clear h8 hx8)
                | (go_at_call 22; (with_reducible refine (key_calls H8.out.tab tn k.f0).mono ?_); rintro e w9 ⟨rfl, hb⟩; rw [HKT.out]; have H9 := Aside0.mk (H8.out.then_ hb); clear x0 x1 x2 x3 x4 x5 x6 x7 x8 x9 x10; obtain ⟨x0, x1, x2, x3, x4, x5, x6, x7, x8, x9, x10⟩ := cellsX ((hb.block _ (heap_lt HX8.out)).trans HX8.out); (try dsimp only at x0 x1 x2 x3 x4 x5 x6 x7 x8 x9 x10); clear hb))
                go_roundg k1
                case measure => omega
                case rel => exact ⟨i + 1, by first | rfl | (simp; done) | (rw [wrap_id (n := (i : Int) + 1) (by omega) (by omega)]; first | rfl | (simp; done)), ⟨by have := HK.out; omega⟩, ⟨st', H9.out, HU'.out⟩⟩
              · skip
                go_wp2_with (first
                | (go_at_call 14; (with_reducible refine (HL.out.doA HDO.out).mono ?_); rintro e w8 ⟨rfl, h8, hx8⟩; have H8 := Aside0.mk h8; have HX8 := Aside0.mk hx8; clear x0 x1 x2 x3 x4 x5 x6 x7 x8 x9 x10; obtain ⟨x0, x1, x2, x3, x4, x5, x6, x7, x8, x9, x10⟩ := cellsX hx8; (try dsimp only at x0 x1 x2 x3 x4 x5 x6 x7 x8 x9 x10); clear h8 hx8)
                | (go_at_call 22; (with_reducible refine (key_calls H8.out.tab tn k.f0).mono ?_); rintro e w9 ⟨rfl, hb⟩; rw [HKT.out]; have H9 := Aside0.mk (H8.out.then_ hb); clear x0 x1 x2 x3 x4 x5 x6 x7 x8 x9 x10; obtain ⟨x0, x1, x2, x3, x4, x5, x6, x7, x8, x9, x10⟩ := cellsX ((hb.block _ (heap_lt HX8.out)).trans HX8.out); (try dsimp only at x0 x1 x2 x3 x4 x5 x6 x7 x8 x9 x10); clear hb))
                go_roundg k1
                case measure => omega
                case rel => exact ⟨i + 1, by first | rfl | (simp; done) | (rw [wrap_id (n := (i : Int) + 1) (by omega) (by omega)]; first | rfl | (simp; done)), ⟨by have := HK.out; omega⟩, ⟨st', H9.out, HU'.out⟩⟩
        · have hne : (er != 0) = true := by simp [he]
          clear hdo hx he
          go_wp2_with (first
            | (go_at_call 14; (with_reducible refine (HL.out.doA HDO.out).mono ?_); rintro e w8 ⟨rfl, h8, hx8⟩; have H8 := Aside0.mk h8; clear h8 hx8 x0 x1 x2 x3 x4 x5 x6 x7 x8 x9 x10))
          go_roundg k1
          case measure => omega
          case rel => exact ⟨i + 1, by first | rfl | (simp; done) | (rw [wrap_id (n := (i : Int) + 1) (by omega) (by omega)]; first | rfl | (simp; done)), ⟨by have := HK.out; omega⟩, ⟨st', H8.out, HU'.out⟩⟩
      · have hi : i = n := by have := HK.out; omega
        subst hi
        clear hlt
        rename World => wo
        go_wp2_with (go_at_call 21; (with_reducible refine (names_reads HL.out.tab).mono ?_); rintro e w5 ⟨A1, cc, rfl, hC5, hc5, hR5, hb⟩; have HC5 := Aside0.mk (And.intro hC5 hc5); have H5 := Aside0.mk (HL.out.then_ hb); clear hC5 hc5 hR5 hb)
        obtain ⟨m, hm⟩ : ∃ m : Nat, m = (namesT st).length := ⟨_, rfl⟩
        rw [← hm] at HC5 ⊢
        have HM := Aside0.mk hm
        have HM16 := Aside0.mk (show m ≤ 16 by have := H5.out.tab.few; omega)
        clear hm
        go_loopg [76] (m + 1) (fun kq v76 wr => ∃ (i : Nat), v76 = .int .i64 i ∧ Aside0 (kq + i = m + 1 ∧ i ≤ m) ∧ Aside0 (LvW w D M st wr ∧ Below w5.heap.size w5 wr))
        case atStart => exact ⟨0, rfl, ⟨by omega⟩, ⟨H5.out, Below.refl _ _⟩⟩
        case round =>
          obtain ⟨i, rfl, HK5, HL5⟩ := hrel
          cases gk with
          | zero => have := HK5.out; omega
          | succ k1 =>
          by_cases hlt : i < m
          · have hi0 : (0 : Int) ≤ (i : Int) := by omega
            have hi1 : (i : Int) < (m : Int) := by omega
            have HIM := Aside0.mk (show i < (namesT st).length by have := HM.out; omega)
            obtain ⟨ad, hA, x0⟩ := Kd.at_string (Kd.C_below HC5.out.1 HL5.out.2) (i : Int) hi0 hi1
            simp only [Int.toNat_natCast] at x0
            obtain ⟨x, hlx, hnx⟩ := names_look HL5.out.1.tab.sorted HIM.out
            have HFN := Aside0.mk (look_fine HL5.out.1.tab hlx)
            have HLX := Aside0.mk (And.intro hlx hnx)
            have HCW := Aside0.mk (fun (W : World) (h : Below w5.heap.size w5 W) => Kd.C_below HC5.out.1 h)
            have HA := Aside0.mk hA
            have HC6 := Aside0.mk HC5.out
            obtain ⟨s, hs⟩ : ∃ s, s = rdOf ByteArray.empty (namesT st) (i : Int) := ⟨_, rfl⟩
            rw [← hs] at x0 HLX
            have HS := Aside0.mk hs
            clear hlt hlx hnx hs
            subst hA
            obtain ⟨n1, hn1⟩ : ∃ n : Nat, n = x.f1.length := ⟨_, rfl⟩
            obtain ⟨n8, hn8⟩ : ∃ n : Nat, n = x.f5.length := ⟨_, rfl⟩
            have g1 : ¬ (n1 : Int) > 4 := by have := HFN.out.keys; omega
            have g8 : ¬ (n8 : Int) > 8 := by have := HFN.out.readers; omega
            have g3 : ¬ x.f3 < 1 := by have := HFN.out.queue; omega
            have g4 : ¬ x.f3 > 64 := by have := HFN.out.queue; omega
            have g5 : ¬ x.f4 < 3 := by have := HFN.out.ring; omega
            have g6 : ¬ x.f4 > 16 := by have := HFN.out.ring; omega
            have g7 : ¬ x.f2.f2 > 4096 := by have := HFN.out.series; omega
            have g9 : ¬ x.f2.f0 < 0 := by have := HFN.out.rate; omega
            have HNN := Aside0.mk (And.intro hn1 hn8)
            clear hn1 hn8
            by_cases hz0 : i = 0
            · have hz : ¬ (i : Int) > 0 := by omega
              clear hz0
              go_wp2_with (first
                | (go_at_call 15; (with_reducible refine (get_calls HL5.out.1.tab s).mono ?_); rintro e w8 hg; obtain ⟨x', v1, v8, hlx, rfl, hr1, hr8⟩ := hg.1.resolve_left (fun h => by have := h.1; rw [HLX.out.1] at this; cases this); rw [HLX.out.1] at hlx; injection hlx with hlx; subst hlx; obtain ⟨B8, c8, hv8⟩ := Kd.R_slice hr8; obtain ⟨B1, c1', hv1⟩ := Kd.R_slice hr1; rw [← HNN.out.1] at hv1; rw [← HNN.out.2] at hv8; subst hv8; subst hv1; have H8 := Aside0.mk hg.2; clear hg hr1 hr8)
                | ((with_reducible refine gate_dst (N := 11) rfl ?_); refine box_event ?hg (N := 11) ?hd (cs := (ten z39 (.slice none 0 0) (.slice none 0 0)).toArray) (t := 39) ?hr ?_; (case hd => rfl); (case hg => rfl); (case hr => first | (go_simp; done) | (go_simp; rfl)); intro E hE w9 h9 hb9; have HE9 := Aside0.mk h9; have HEG := Aside0.mk (show w8.heap.size ≤ E by omega); have HB9 := Aside0.mk hb9; clear hE h9 hb9)
                | ((with_reducible refine gate_ (.store 39 (.tmp 11) (.tmp 85)) rfl ?_); refine store_blk rfl 39 (.tmp 11) (.tmp 85) rfl E (ten z39 (.slice none 0 0) (.slice none 0 0)) (ten x (.slice B1 n1 c1') (.slice B8 n8 c8)) rfl rfl HE9.out rfl size39 (ten_one _ rfl rfl) ?_; intro wa ha hka hba; have hba0 := Aside0.mk (below_step H8.out (hba w8 HEG.out HB9.out)); have Ha := Aside0.mk (HL5.out.1.then_ hba0.out); obtain ⟨e0, e1, e2, e3, e4, e5, e6, e7, e8⟩ := cellsT ha; rw [HLX.out.2] at e0; clear ha hka hba))
              go_roundg k1
              case measure => omega
              case rel => exact ⟨i + 1, by first | rfl | (simp; done) | (rw [wrap_id (n := (i : Int) + 1) (by omega) (by have := HM16.out; omega)]; first | rfl | (simp; done)), ⟨by have := HK5.out; omega⟩, ⟨Ha.out, (HL5.out.2.trans (hba0.out.mono HL5.out.2.size))⟩⟩
            · have hz : (i : Int) > 0 := by omega
              obtain ⟨j, hij⟩ : ∃ j, i = j + 1 := ⟨i - 1, by omega⟩
              have hsub : wrap64 ((i : Int) - 1) = (j : Int) := by unfold wrap64; have := HM16.out; omega
              have hj0 : (0 : Int) ≤ (j : Int) := by omega
              have hj1 : (j : Int) < (m : Int) := by omega
              have hlt := names_lt (i := j) HL5.out.1.tab.sorted (by have := HIM.out; omega)
              rw [← hij] at hlt
              rw [← HS.out] at hlt
              obtain ⟨pv, hpv⟩ : ∃ pv, pv = rdOf ByteArray.empty (namesT st) (j : Int) := ⟨_, rfl⟩
              rw [← hpv] at hlt
              have hcmp : Op.bytesLess pv.toList s.toList = true := (bytesLess_iff _ _).2 hlt
              have hge : ∀ W : World, (binOp .geq 9 (.string pv) (.string s)).run Try.prog W = .ok (.bool false) W := fun W => by simp [binOp, Op.stringOp, hcmp]
              have HPV := Aside0.mk hpv
              clear hcmp
              clear hlt hpv hij hz0
              go_wp2_with (first
                | (go_at_call 15; (with_reducible refine (get_calls HL5.out.1.tab s).mono ?_); rintro e w8 hg; obtain ⟨x', v1, v8, hlx, rfl, hr1, hr8⟩ := hg.1.resolve_left (fun h => by have := h.1; rw [HLX.out.1] at this; cases this); rw [HLX.out.1] at hlx; injection hlx with hlx; subst hlx; obtain ⟨B8, c8, hv8⟩ := Kd.R_slice hr8; obtain ⟨B1, c1', hv1⟩ := Kd.R_slice hr1; rw [← HNN.out.1] at hv1; rw [← HNN.out.2] at hv8; subst hv8; subst hv1; have H8 := Aside0.mk hg.2; clear hg hr1 hr8)
                | ((with_reducible refine gate_dst (N := 11) rfl ?_); refine box_event ?hg (N := 11) ?hd (cs := (ten z39 (.slice none 0 0) (.slice none 0 0)).toArray) (t := 39) ?hr ?_; (case hd => rfl); (case hg => rfl); (case hr => first | (go_simp; done) | (go_simp; rfl)); intro E hE w9 h9 hb9; have HE9 := Aside0.mk h9; have HEG := Aside0.mk (show w8.heap.size ≤ E by omega); have HB9 := Aside0.mk hb9; clear hE h9 hb9)
                | ((with_reducible refine gate_ (.store 39 (.tmp 11) (.tmp 85)) rfl ?_); refine store_blk rfl 39 (.tmp 11) (.tmp 85) rfl E (ten z39 (.slice none 0 0) (.slice none 0 0)) (ten x (.slice B1 n1 c1') (.slice B8 n8 c8)) rfl rfl HE9.out rfl size39 (ten_one _ rfl rfl) ?_; intro wa ha hka hba; have hba0 := Aside0.mk (below_step H8.out (hba w8 HEG.out HB9.out)); have Ha := Aside0.mk (HL5.out.1.then_ hba0.out); obtain ⟨e0, e1, e2, e3, e4, e5, e6, e7, e8⟩ := cellsT ha; rw [HLX.out.2] at e0; obtain ⟨ad2, hA2, y0⟩ := Kd.at_string (HCW.out wa (HL5.out.2.trans (hba0.out.mono HL5.out.2.size))) (j : Int) hj0 hj1; simp only [Int.toNat_natCast] at y0; rw [← HPV.out] at y0; injection hA2 with hA2; subst hA2; clear ha hka hba))
              go_roundg k1
              case measure => omega
              case rel => exact ⟨i + 1, by first | rfl | (simp; done) | (rw [wrap_id (n := (i : Int) + 1) (by omega) (by have := HM16.out; omega)]; first | rfl | (simp; done)), ⟨by have := HK5.out; omega⟩, ⟨Ha.out, (HL5.out.2.trans (hba0.out.mono HL5.out.2.size))⟩⟩
          · have hi : i = m := by have := HK5.out; omega
            subst hi
            clear hlt
            have q16 : (i : Int) ≤ 16 := by have := HM16.out; omega
            go_wp2
            go_ret
            exact ⟨rfl, HL5.out.1.below⟩
end Go.Proofs.Yticoaaddhhiglaa.T
