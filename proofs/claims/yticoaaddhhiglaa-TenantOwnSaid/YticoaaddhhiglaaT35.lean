import Derived.Test.YticoaaddhhiglaaTI
/- The laws by hand: TenantOwn (mkT35.py). -/
namespace Go.Proofs.Yticoaaddhhiglaa.T
open Go.RowKit Go.Proofs.Yticoaaddhhiglaa.Q Go.Proofs.YticoaaddhhiglaaW.PrintWords Go.Proofs.YticoaaddhhiglaaW.PrintLast Go.Proofs.YticoaaddhhiglaaW.PrintMore
set_option linter.unusedVariables false
set_option linter.unusedSimpArgs false
/-- A table that no call made, behind all that was done. -/
structure Bare (w : World) (X : Nat) (c : S27) (Z : Nat) (W : World) : Prop where
  below : Below w.heap.size w W
  blkX : W.heap[X]? = some (.cells (chg c).toArray 27 (0, 0))
  blkZ : W.heap[Z]? = some (.cells #[.bool false, .map none] 60 (0, 0))
theorem Bare.then_ {w : World} {X : Nat} {c : S27} {Z : Nat} {W W' : World} (h : Bare w X c Z W) (hb : Below W.heap.size W W') : Bare w X c Z W' := ⟨below_step h.below hb, (hb.block X (heap_lt h.blkX)).trans h.blkX, (hb.block Z (heap_lt h.blkZ)).trans h.blkZ⟩
theorem NoT.nil (W : World) : NoT W none := .inl rfl
theorem Bare.noz {w : World} {X : Nat} {c : S27} {Z : Nat} {W : World} (h : Bare w X c Z W) : NoT W (some ⟨Z, 0, none⟩) := .inr ⟨Z, rfl, h.blkZ⟩
def own.T27 : Bool × List (List Nat × List Nat) := (true, [([], []), ([], []), ([0, 1], [0, 1]), ([], []), ([], []), ([3, 4, 2], [3, 4]), ([2, 5], [2, 5]), ([6, 5], [6]), ([7], [7]), ([7], [7]), ([7], [7]), ([10, 7], [7, 10]), ([8, 9, 11, 7, 7], [7, 8, 9, 11]), ([12, 7], [7, 12]), ([7, 13], [7, 13]), ([14, 12], [14]), ([15], [15]), ([15], [15]), ([15], [15]), ([18, 15], [15, 18]), ([16, 17, 19, 15, 15], [15, 16, 17, 19]), ([20, 15], [15, 20]), ([15, 21], [15, 21])])
def own.B27 : List Nat := [0, 0, 3, 0, 0, 31, 63, 127, 255, 255, 255, 1279, 4095, 8191, 16383, 32767, 65535, 65535, 65535, 327679, 1048575, 2097151, 4194303]
theorem own.tab27 : rtab .any (opsOf Try.f8 27) = own.T27 := by kernel_rfl
theorem own.bits27 : waitsOk own.T27.2 own.B27 = true := by kernel_rfl
set_option maxHeartbeats 8000000 in
set_option maxRecDepth 100000 in
theorem own_law {w : World} {A : Option Addr} {cc : Nat} {l : List S27} (c : S27) (hC : k27.C w A l.length l) (hc : l.length ≤ cc) : Calls Try.prog 8 #[.slice A l.length cc, .agg #[.int .i64 c.f0, .string c.f1, .int .i64 c.f2.f0, .string c.f2.f1, .int .i64 c.f3.f0, .int .i64 c.f3.f1, .int .i64 c.f3.f2, .int .i64 c.f3.f3, .int .i64 c.f4, .int .i64 c.f5, .string c.f6]] w fun e w' => e = .returned (.bool true) ∧ Below w.heap.size w w' := by
  have hmax := Kd.C_max hC
  obtain ⟨r, hr⟩ := few_calls (A := A) (c := cc) (l := l) hmax
  obtain ⟨r1, hr1⟩ := few1_calls c
  obtain ⟨n, hn⟩ : ∃ n : Nat, n = l.length := ⟨_, rfl⟩
  rw [← hn] at hmax hr hC hc ⊢
  have HR := Aside0.mk hr
  have HR1 := Aside0.mk hr1
  have HC := Aside0.mk hC
  have HN := Aside0.mk (And.intro hn (And.intro hmax hc))
  clear hr hr1 hn hC hc hmax
  have hcase : r = false ∨ (r = true ∧ r1 = false) ∨ (r = true ∧ r1 = true) := by cases r <;> cases r1 <;> simp
  rcases hcase with rfl | ⟨rfl, rfl⟩ | ⟨rfl, rfl⟩
  iterate 2
    · go_enter Try.func8, Try.ntmps8
      go_wp2_with (first
        | ((with_reducible refine gate_dst (N := 3) rfl ?_); refine box_event ?hg (N := 3) ?hd (cs := (chg c).toArray) (t := 27) ?hr ?_; (case hd => rfl); (case hg => rfl); (case hr => first | (go_simp; done) | (go_simp; rfl)); intro X hX w1 hx1 hb1; have H1 := Aside0.mk (And.intro hb1 hx1); clear hX hx1 hb1)
        | (go_at_call 9; have hmark := H3.out; (with_reducible refine (live_calls _).mono ?_); rintro e w4 ⟨rfl, hb⟩; have H4 := Aside0.mk (below_step H3.out.1 hb); clear hb hmark)
        | (go_at_call 9; (with_reducible refine (live_calls _).mono ?_); rintro e w2 ⟨rfl, hb⟩; have H2 := Aside0.mk (And.intro (below_step H1.out.1 hb) ((hb.block X (heap_lt H1.out.2)).trans H1.out.2)); clear hb)
        | (go_at_call 10; have hmark := H3.out; (with_reducible refine (HR1.out _).mono ?_); rintro e w3b ⟨rfl, hb⟩; have H3b := H3; clear H3; have H3 := Aside0.mk (And.intro (below_step H3b.out.1 hb) ((hb.block X (heap_lt H3b.out.2)).trans H3b.out.2)); clear hb hmark H3b x0 x1 x2 x3 x4 x5 x6 x7 x8 x9 x10; obtain ⟨x0, x1, x2, x3, x4, x5, x6, x7, x8, x9, x10⟩ := cellsX H3.out.2)
        | (go_at_call 10; (with_reducible refine (HR.out _ (Kd.C_below HC.out H2.out.1) HN.out.2.2).mono ?_); rintro e w3 ⟨rfl, hb⟩; have H3 := Aside0.mk (And.intro (below_step H2.out.1 hb) ((hb.block X (heap_lt H2.out.2)).trans H2.out.2)); obtain ⟨x0, x1, x2, x3, x4, x5, x6, x7, x8, x9, x10⟩ := cellsX H3.out.2; clear hb))
      go_ret
      exact ⟨rfl, H4.out⟩
  · go_enter Try.func8, Try.ntmps8
    go_wp2_with (first
      | ((with_reducible refine gate_dst (N := 3) rfl ?_); refine box_event ?hg (N := 3) ?hd (cs := (chg c).toArray) (t := 27) ?hr ?_; (case hd => rfl); (case hg => rfl); (case hr => first | (go_simp; done) | (go_simp; rfl)); intro X hX w1 hx1 hb1; have H1 := Aside0.mk (And.intro hb1 hx1); clear hX hx1 hb1)
      | (go_at_call 9; (with_reducible refine (live_calls _).mono ?_); rintro e w2 ⟨rfl, hb⟩; have H2 := Aside0.mk (And.intro (below_step H1.out.1 hb) ((hb.block X (heap_lt H1.out.2)).trans H1.out.2)); clear hb)
      | (go_at_call 10; have hmark := H3.out; (with_reducible refine (HR1.out _).mono ?_); rintro e w3b ⟨rfl, hb⟩; have H3b := H3; clear H3; have H3 := Aside0.mk (And.intro (below_step H3b.out.1 hb) ((hb.block X (heap_lt H3b.out.2)).trans H3b.out.2)); clear hb hmark H3b x0 x1 x2 x3 x4 x5 x6 x7 x8 x9 x10; obtain ⟨x0, x1, x2, x3, x4, x5, x6, x7, x8, x9, x10⟩ := cellsX H3.out.2)
      | (go_at_call 10; (with_reducible refine (HR.out _ (Kd.C_below HC.out H2.out.1) HN.out.2.2).mono ?_); rintro e w3 ⟨rfl, hb⟩; have H3 := Aside0.mk (And.intro (below_step H2.out.1 hb) ((hb.block X (heap_lt H2.out.2)).trans H2.out.2)); obtain ⟨x0, x1, x2, x3, x4, x5, x6, x7, x8, x9, x10⟩ := cellsX H3.out.2; clear hb)
      | (go_at_call 13; (with_reducible refine (LvW.made _).mono ?_); rintro e w4 ⟨D, M, rfl, h4⟩; have H4 := Aside0.mk (And.intro (show LvW w D M [] w4 from ⟨h4.tab, below_step H3.out.1 h4.below, Nat.le_trans H3.out.1.size h4.hD, Nat.le_trans H3.out.1.size h4.hM⟩) ((h4.below.block X (heap_lt H3.out.2)).trans H3.out.2)); clear h4 x0 x1 x2 x3 x4 x5 x6 x7 x8 x9 x10)
      | ((with_reducible refine gate_dst (N := 37) rfl ?_); refine box_event ?hg (N := 37) ?hd (cs := #[.slice none 0 0]) (t := 52) ?hr ?_; (case hd => rfl); (case hg => rfl); (case hr => first | (go_simp; done) | (go_simp; rfl)); intro g hg w5 h5 hb5; have H5 := Aside0.mk (And.intro (Two.made H4.out.1 (show w4.heap.size ≤ g by omega) hb5 h5) ((hb5.block X (heap_lt H4.out.2)).trans H4.out.2)); clear hg h5 hb5))
    go_loopg [42] (n + 1) (fun kq v42 wr => ∃ (i : Nat), v42 = .int .i64 i ∧ Aside0 (kq + i = n + 1 ∧ i ≤ n) ∧ Aside0 (∃ st, Two w D M g st wr) ∧ Aside0 (wr.heap[X]? = some (.cells (chg c).toArray 27 (0, 0))))
    case atStart => exact ⟨0, rfl, ⟨by omega⟩, ⟨[], H5.out.1⟩, ⟨H5.out.2⟩⟩
    case round =>
      obtain ⟨i, rfl, HK, HL, HX⟩ := hrel
      obtain ⟨st, hL⟩ := HL.out
      have HL := Aside0.mk hL
      clear hL
      cases gk with
      | zero => have := HK.out; omega
      | succ k1 =>
      by_cases hlt : i < n
      · have hi0 : (0 : Int) ≤ (i : Int) := by omega
        have hi1 : (i : Int) < (n : Int) := by omega
        obtain ⟨ad, hA, x0, x1, x2, x3, x4, x5, x6, x7, x8, x9, x10⟩ := at_T27 (Kd.C_below HC.out HL.out.below) (i : Int) hi0 hi1
        simp only [Int.toNat_natCast] at x0 x1 x2 x3 x4 x5 x6 x7 x8 x9 x10
        have hi2 : (i : Int) + 1 ≤ 9223372036854775807 := by have := HN.out.2.1; omega
        subst hA
        clear hlt
        generalize rd_T27 l (i : Int) = y at *
        obtain ⟨er, st', hdo⟩ : ∃ er st', doT st y = (er, st') := ⟨_, _, rfl⟩
        have HDO := Aside0.mk hdo
        clear hdo
        go_wp2_with (first
          | ((with_reducible refine gate_dst (N := 8) rfl ?_); refine box_event ?hg (N := 8) ?hd (cs := (chg z27).toArray) (t := 27) ?hr ?_; (case hd => rfl); (case hg => rfl); (case hr => exact alloc27 _ _ _ rfl); intro E hE w6 h6 hb6; have H6 := Aside0.mk (And.intro h6 (And.intro hb6 (show wr.heap.size ≤ E by omega))); clear hE h6 hb6)
          | ((with_reducible refine gate_ (.store 27 (.tmp 8) (.tmp 45)) rfl ?_); refine store_blk rfl 27 (.tmp 8) (.tmp 45) rfl E (chg z27) (chg y) rfl rfl H6.out.1 rfl size27 (chg_one y) ?_; intro w7 ha hka hba; have hbb := hba wr H6.out.2.2 H6.out.2.1; have H7 := Aside0.mk (And.intro (HL.out.then_ hbb) (And.intro ha ((hbb.block X (heap_lt HX.out)).trans HX.out))); clear ha hka hba hbb x0 x1 x2 x3 x4 x5 x6 x7 x8 x9 x10; obtain ⟨x0, x1, x2, x3, x4, x5, x6, x7, x8, x9, x10⟩ := cellsX H7.out.2.1)
          | (go_at_call 14; (with_reducible refine (H7.out.1.do1L HDO.out).mono ?_); rintro e w8 ⟨rfl, h, hs⟩; have H8 := Aside0.mk (And.intro h (And.intro ((hs E _ _ _ H7.out.2.1).trans H7.out.2.1) ((hs X _ _ _ H7.out.2.2).trans H7.out.2.2))); clear h hs x0 x1 x2 x3 x4 x5 x6 x7 x8 x9 x10; obtain ⟨x0, x1, x2, x3, x4, x5, x6, x7, x8, x9, x10⟩ := cellsX H8.out.2.1)
          | (go_at_call 24; (with_reducible refine (H8.out.1.do2L HDO.out).mono ?_); rintro e w9 ⟨rfl, h, hs⟩; have H9 := Aside0.mk (And.intro h ((hs X _ _ (by decide) (by decide) H8.out.2.2).trans H8.out.2.2)); clear h hs x0 x1 x2 x3 x4 x5 x6 x7 x8 x9 x10))
        go_roundg k1
        case measure => omega
        case rel => exact ⟨i + 1, by first | rfl | (simp; done) | (rw [wrap_id (n := (i : Int) + 1) (by omega) (by omega)]; first | rfl | (simp; done)), ⟨by have := HK.out; omega⟩, ⟨st', H9.out.1⟩, ⟨H9.out.2⟩⟩
      · have hi : i = n := by have := HK.out; omega
        subst hi
        clear hlt
        rename World => wo
        obtain ⟨x, hx⟩ : ∃ x, x = getX st c.f1 := ⟨_, rfl⟩
        obtain ⟨b0, hb0⟩ : ∃ b, b = getB st c.f1 := ⟨_, rfl⟩
        obtain ⟨n1, hn1⟩ : ∃ n : Nat, n = x.f1.length := ⟨_, rfl⟩
        obtain ⟨n8, hn8⟩ : ∃ n : Nat, n = x.f5.length := ⟨_, rfl⟩
        have HXS := Aside0.mk (show n1 ≤ 100 ∧ n8 ≤ 100 by have := getX_small HL.out.lv.tab c.f1; rw [← hx, ← hn1, ← hn8] at this; omega)
        have HGX := Aside0.mk (And.intro hx (And.intro hn1 (And.intro hn8 hb0)))
        clear hx hn1 hn8 hb0
        obtain ⟨er, st', hdo⟩ : ∃ er st', doT st c = (er, st') := ⟨_, _, rfl⟩
        have HDO := Aside0.mk hdo
        clear hdo
        obtain ⟨x0, x1, x2, x3, x4, x5, x6, x7, x8, x9, x10⟩ := cellsX HX.out
        go_wp2_with (first
          | (go_at_call 15; (with_reducible refine (get2_calls HL.out.lv.tab c.f1).mono ?_); rw [← HGX.out.1, ← HGX.out.2.1, ← HGX.out.2.2.1, ← HGX.out.2.2.2]; rintro e w6 ⟨A1, c1, A8, c8, rfl, hr, hb⟩; have H6 := Aside0.mk (And.intro hr hb); clear hr hb x0 x1 x2 x3 x4 x5 x6 x7 x8 x9 x10)
          | ((with_reducible refine gate_dst (N := 9) rfl ?_); refine box_event ?hg (N := 9) ?hd (cs := (ten z39 (.slice none 0 0) (.slice none 0 0)).toArray) (t := 39) ?hr ?_; (case hd => rfl); (case hg => rfl); (case hr => first | (go_simp; done) | (go_simp; rfl)); intro Y hY w7 h2 hb2; have H7 := Aside0.mk (And.intro h2 (And.intro hb2 (show w6.heap.size ≤ Y by omega))); clear hY h2 hb2)
          | ((with_reducible refine gate_ (.store 39 (.tmp 9) (.tmp 58)) rfl ?_); refine store_blk rfl 39 (.tmp 9) (.tmp 58) rfl Y (ten z39 (.slice none 0 0) (.slice none 0 0)) (ten x (.slice A1 n1 c1) (.slice A8 n8 c8)) rfl rfl H7.out.1 rfl size39 (ten_one _ rfl rfl) ?_; intro w8 ha hka hba; have hbb := hba w6 H7.out.2.2 H7.out.2.1; have H8 := Aside0.mk (Mut.of HGX.out.2.1 HGX.out.2.2.1 (below_step H6.out.2 hbb) (Nat.le_trans H6.out.2.size H7.out.2.2) ha (Kd.R_below H6.out.1.1 hbb) (Kd.R_below H6.out.1.2 hbb)); obtain ⟨y0, y1, y2, y3, y4, y5, y6, y7, y8⟩ := cellsT H8.out.blkY; clear ha hka hba hbb))
        clear y0 y2 y3 y4 y5 y6 y7 y8
        go_wp2_with (fail)
        clear y1
        go_loopg [63] (n1 + 1) (fun kq v63 wr => ∃ (j : Nat), v63 = .int .i64 j ∧ Aside0 (kq + j = n1 + 1 ∧ j ≤ n1) ∧ Aside0 (Mut wo Y x A1 n1 c1 A8 n8 c8 wr))
        case atStart => exact ⟨0, rfl, ⟨by omega⟩, ⟨H8.out⟩⟩
        case round =>
          obtain ⟨j, rfl, HJ, HM⟩ := hrel
          cases gk with
          | zero => have := HJ.out; omega
          | succ k2 =>
          by_cases hj : j < n1
          · have hj0 : (0 : Int) ≤ (j : Int) := by omega
            have hj1 : (j : Int) < (n1 : Int) := by omega
            have hj2 : (j : Int) + 1 ≤ 9223372036854775807 := by have := HXS.out.1; omega
            obtain ⟨ad1, u0, hA1, k0, kf, hset⟩ := HM.out.at1 hj
            have HSET := Aside0.mk (hset (.int .i64 77))
            have y1 := (cellsT HM.out.blkY).2.1
            subst hA1
            clear hset hj
            go_wp2
            go_roundg k2
            case measure => omega
            case rel => exact ⟨j + 1, by first | rfl | (simp; done) | (rw [wrap_id (n := (j : Int) + 1) (by omega) (by omega)]; first | rfl | (simp; done)), ⟨by have := HJ.out; omega⟩, HSET⟩
          · have hje : j = n1 := by have := HJ.out; omega
            subst hje
            clear hj
            have y8 := (cellsT HM.out.blkY).2.2.2.2.2.2.2.2
            go_wp2_with (fail)
            clear y8
            rename World => wm
            go_loopg [75] (n8 + 1) (fun kq v75 wr => ∃ (k : Nat), v75 = .int .i64 k ∧ Aside0 (kq + k = n8 + 1 ∧ k ≤ n8) ∧ Aside0 (Mut wo Y x A1 j c1 A8 n8 c8 wr))
            case atStart => exact ⟨0, rfl, ⟨by omega⟩, ⟨HM.out⟩⟩
            case round =>
              obtain ⟨k, rfl, HKK, HM8⟩ := hrel
              cases gk with
              | zero => have := HKK.out; omega
              | succ k3 =>
              by_cases hk : k < n8
              · have hk0 : (0 : Int) ≤ (k : Int) := by omega
                have hk1 : (k : Int) < (n8 : Int) := by omega
                have hk2 : (k : Int) + 1 ≤ 9223372036854775807 := by have := HXS.out.2; omega
                obtain ⟨ad8, u0, hA8, k0, kf, hset⟩ := HM8.out.at8 hk
                have HSET := Aside0.mk (hset (.string ⟨#[122, 122]⟩))
                have y8 := (cellsT HM8.out.blkY).2.2.2.2.2.2.2.2
                subst hA8
                clear hset hk
                go_wp2
                go_roundg k3
                case measure => omega
                case rel => exact ⟨k + 1, by first | rfl | (simp; done) | (rw [wrap_id (n := (k : Int) + 1) (by omega) (by omega)]; first | rfl | (simp; done)), ⟨by have := HKK.out; omega⟩, HSET⟩
              · have hke : k = n8 := by have := HKK.out; omega
                subst hke
                clear hk
                rename World => wn
                have H9 := Aside0.mk (And.intro (HL.out.then_ HM8.out.below) ((HM8.out.below.block X (heap_lt HX.out)).trans HX.out))
                go_wp2_with (first
                  | (go_at_call 20; (with_reducible refine (clone_calls H9.out.1.lv.tab).mono ?_); rintro e wb ⟨D2, M2, rfl, hl⟩; have Hb := Aside0.mk (And.intro (H9.out.1.then_ hl.below) (And.intro hl ((hl.below.block X (heap_lt H9.out.2)).trans H9.out.2))); clear hl; obtain ⟨x0, x1, x2, x3, x4, x5, x6, x7, x8, x9, x10⟩ := cellsX Hb.out.2.2)
                  | (go_at_call 25; (with_reducible refine (same_law Hb.out.1.lv.tab Hb.out.1.rf c.f1).mono ?_); rintro e wd ⟨rfl, hb⟩; have Hd := Aside0.mk (And.intro (show LvW wn D2 M2 st wd from Hb.out.2.1.then_ hb) (And.intro (Hb.out.1.then_ hb) ((hb.block X (heap_lt Hb.out.2.2)).trans Hb.out.2.2))); clear hb x0 x1 x2 x3 x4 x5 x6 x7 x8 x9 x10)
                  | (go_at_call 27; (with_reducible refine (rclone_calls Hd.out.2.1.rf Hd.out.2.1.few).mono ?_); rintro e we ⟨g2, rfl, hr, hb, hg2, hro⟩; have He := Aside0.mk (And.intro (Four.made H9.out.1 Hd.out.1 hb hr hg2 hro) ((hb.block X (heap_lt Hd.out.2.2)).trans Hd.out.2.2)); clear hr hb hg2 hro))
                refine start_ (n := 23) (S := fun w' => w'.cell? ⟨X, 0, none⟩ = some (.int .i64 c.f0) ∧ w'.cell? ⟨X, 1, none⟩ = some (.string c.f1) ∧ w'.cell? ⟨X, 2, none⟩ = some (.int .i64 c.f2.f0) ∧ w'.cell? ⟨X, 3, none⟩ = some (.string c.f2.f1) ∧ w'.cell? ⟨X, 4, none⟩ = some (.int .i64 c.f3.f0) ∧ w'.cell? ⟨X, 5, none⟩ = some (.int .i64 c.f3.f1) ∧ w'.cell? ⟨X, 6, none⟩ = some (.int .i64 c.f3.f2) ∧ w'.cell? ⟨X, 7, none⟩ = some (.int .i64 c.f3.f3) ∧ w'.cell? ⟨X, 8, none⟩ = some (.int .i64 c.f4) ∧ w'.cell? ⟨X, 9, none⟩ = some (.int .i64 c.f5) ∧ w'.cell? ⟨X, 10, none⟩ = some (.string c.f6)) (ds := []) #[false, false, false, false, false, false, false, false, false, false, false, false, false, false, false, false, false, false, false, false, false, false, false] (by kernel_rfl) rfl rfl (cellsX (show we.drew.heap[X]? = _ from He.out.2)) (fun hHeld => ?_); refine with_tabW own.tab27 own.bits27 (fun HT_ HW_ => ?_)
                refine pure_ (i := 0) (N := some 97) (v := ?_) (a' := ?_) #[true, false, false, false, false, false, false, false, false, false, false, false, false, false, false, false, false, false, false, false, false, false, false] rfl rfl (any_of HT_.out (by kernel_rfl)) (fun _ _ _ h => h) (Or.inl ⟨by rfl, ?_⟩) ?_ ?_
                rotate_left
                · intro w'
                  go_simp
                  with_reducible rfl
                rotate_left
                · simp only [Act.put, List.setIfInBounds_toArray, List.set_cons_zero, List.set_cons_succ, i64_w, i32_w, xu32_w, xu8_w]
                  rfl
                refine pure_ (i := 3) (N := some 100) (v := ?_) (a' := ?_) #[true, false, false, true, false, false, false, false, false, false, false, false, false, false, false, false, false, false, false, false, false, false, false] rfl rfl (any_of HT_.out (by kernel_rfl)) (fun _ _ _ h => h) (Or.inl ⟨by rfl, ?_⟩) ?_ ?_
                rotate_left
                · intro w'
                  go_simp
                  with_reducible rfl
                rotate_left
                · simp only [Act.put, List.setIfInBounds_toArray, List.set_cons_zero, List.set_cons_succ, i64_w, i32_w, xu32_w, xu8_w]
                  rfl
                refine take_ (i := 1) (N := some 98) (v := ?_) (a' := ?_) #[true, true, false, true, false, false, false, false, false, false, false, false, false, false, false, false, false, false, false, false, false, false, false] rfl rfl (take_ofW HT_.out HW_.out (by kernel_rfl)) (fun _ _ _ h => h) (Or.inl ⟨by rfl, ?_⟩) hHeld ?_ ?_
                rotate_left
                · rintro w' ⟨s0, s1, s2, s3, s4, s5, s6, s7, s8, s9, s10⟩
                  go_simp
                  with_reducible rfl
                rotate_left
                · simp only [Act.put, List.setIfInBounds_toArray, List.set_cons_zero, List.set_cons_succ, i64_w, i32_w, xu32_w, xu8_w]
                  rfl
                refine take_ (i := 4) (N := some 101) (v := ?_) (a' := ?_) #[true, true, false, true, true, false, false, false, false, false, false, false, false, false, false, false, false, false, false, false, false, false, false] rfl rfl (take_ofW HT_.out HW_.out (by kernel_rfl)) (fun _ _ _ h => h) (Or.inl ⟨by rfl, ?_⟩) hHeld ?_ ?_
                rotate_left
                · rintro w' ⟨s0, s1, s2, s3, s4, s5, s6, s7, s8, s9, s10⟩
                  go_simp
                  with_reducible rfl
                rotate_left
                · simp only [Act.put, List.setIfInBounds_toArray, List.set_cons_zero, List.set_cons_succ, i64_w, i32_w, xu32_w, xu8_w]
                  rfl
                refine one_ (i := 2) (N := some 99) #[true, true, true, true, true, false, false, false, false, false, false, false, false, false, false, false, false, false, false, false, false, false, false] rfl rfl (one_of HT_.out (by kernel_rfl)) (by decide) (fun K hK => ?_)
                refine goes_ Try.func14 (by kernel_rfl) rfl #[.pointer (some ⟨D, 0, none⟩), .agg (chg c).toArray] (by rfl) rfl rfl (by (try simp only [List.map_toArray, List.map_cons, List.map_nil]); first | done | rfl) ?_
                with_reducible refine ((He.out.1.then_ (below_drew (Below.refl _ _))).do1 HDO.out).mono ?_
                rintro e wf ⟨rfl, h, hs⟩
                refine ⟨_, rfl, ?_⟩
                have Hf := Aside0.mk (And.intro h ((hs X _ _ _ (show we.drew.heap[X]? = _ from He.out.2)).trans (show we.drew.heap[X]? = _ from He.out.2)))
                clear h hs
                refine hK.out _ _ (cellsX Hf.out.2) (fun hHeld => ?_)
                clear hK K
                refine norm_ (a' := ?_) ?_ ?_
                rotate_left
                · show Act.put _ (some 99) _ = _
                  simp only [Act.put, List.setIfInBounds_toArray, List.set_cons_zero, List.set_cons_succ, i64_w, i32_w, xu32_w, xu8_w]
                  rfl
                refine one_ (i := 5) (N := some 102) #[true, true, true, true, true, true, false, false, false, false, false, false, false, false, false, false, false, false, false, false, false, false, false] rfl rfl (one_of HT_.out (by kernel_rfl)) (by decide) (fun K hK => ?_)
                refine goes_ Try.func24 (by kernel_rfl) rfl #[.pointer (some ⟨g, 0, none⟩), .agg (chg c).toArray] (by rfl) rfl rfl (by (try simp only [List.map_toArray, List.map_cons, List.map_nil]); first | done | rfl) ?_
                with_reducible refine (Hf.out.1.do2 HDO.out).mono ?_
                rintro e wg ⟨rfl, h, hs⟩
                refine ⟨_, rfl, ?_⟩
                have Hg := Aside0.mk (And.intro h ((hs X _ _ (by decide) (by decide) Hf.out.2).trans Hf.out.2))
                clear h hs
                refine hK.out _ _ (cellsX Hg.out.2) (fun hHeld => ?_)
                clear hK K
                refine norm_ (a' := ?_) ?_ ?_
                rotate_left
                · show Act.put _ (some 102) _ = _
                  simp only [Act.put, List.setIfInBounds_toArray, List.set_cons_zero, List.set_cons_succ, i64_w, i32_w, xu32_w, xu8_w]
                  rfl
                refine pure_ (i := 6) (N := some 103) (v := ?_) (a' := ?_) #[true, true, true, true, true, true, true, false, false, false, false, false, false, false, false, false, false, false, false, false, false, false, false] rfl rfl (any_of HT_.out (by kernel_rfl)) (fun _ _ _ h => h) (Or.inl ⟨by rfl, ?_⟩) ?_ ?_
                rotate_left
                · intro w'
                  go_simp
                  with_reducible rfl
                rotate_left
                · simp only [Act.put, List.setIfInBounds_toArray, List.set_cons_zero, List.set_cons_succ, i64_w, i32_w, xu32_w, xu8_w]
                  rfl
                refine pure_ (i := 7) (N := some 104) (v := ?_) (a' := ?_) #[true, true, true, true, true, true, true, true, false, false, false, false, false, false, false, false, false, false, false, false, false, false, false] rfl rfl (any_of HT_.out (by kernel_rfl)) (fun _ _ _ h => h) (Or.inl ⟨by rfl, ?_⟩) ?_ ?_
                rotate_left
                · intro w'
                  go_simp
                  with_reducible rfl
                rotate_left
                · simp only [Act.put, List.setIfInBounds_toArray, List.set_cons_zero, List.set_cons_succ, i64_w, i32_w, xu32_w, xu8_w]
                  rfl
                refine pure_ (i := 8) (N := some 105) (v := ?_) (a' := ?_) #[true, true, true, true, true, true, true, true, true, false, false, false, false, false, false, false, false, false, false, false, false, false, false] rfl rfl (any_of HT_.out (by kernel_rfl)) (fun _ _ _ h => h) (Or.inl ⟨by rfl, ?_⟩) ?_ ?_
                rotate_left
                · intro w'
                  go_simp
                  with_reducible rfl
                rotate_left
                · simp only [Act.put, List.setIfInBounds_toArray, List.set_cons_zero, List.set_cons_succ, i64_w, i32_w, xu32_w, xu8_w]
                  rfl
                refine pure_ (i := 9) (N := some 106) (v := ?_) (a' := ?_) #[true, true, true, true, true, true, true, true, true, true, false, false, false, false, false, false, false, false, false, false, false, false, false] rfl rfl (any_of HT_.out (by kernel_rfl)) (fun _ _ _ h => h) (Or.inl ⟨by rfl, ?_⟩) ?_ ?_
                rotate_left
                · intro w'
                  go_simp
                  with_reducible rfl
                rotate_left
                · simp only [Act.put, List.setIfInBounds_toArray, List.set_cons_zero, List.set_cons_succ, i64_w, i32_w, xu32_w, xu8_w]
                  rfl
                refine pure_ (i := 10) (N := some 107) (v := ?_) (a' := ?_) #[true, true, true, true, true, true, true, true, true, true, true, false, false, false, false, false, false, false, false, false, false, false, false] rfl rfl (any_of HT_.out (by kernel_rfl)) (fun _ _ _ h => h) (Or.inl ⟨by rfl, ?_⟩) ?_ ?_
                rotate_left
                · intro w'
                  go_simp
                  with_reducible rfl
                rotate_left
                · simp only [Act.put, List.setIfInBounds_toArray, List.set_cons_zero, List.set_cons_succ, i64_w, i32_w, xu32_w, xu8_w]
                  rfl
                refine take_ (i := 11) (N := some 108) (v := ?_) (a' := ?_) #[true, true, true, true, true, true, true, true, true, true, true, true, false, false, false, false, false, false, false, false, false, false, false] rfl rfl (take_ofW HT_.out HW_.out (by kernel_rfl)) (fun _ _ _ h => h) (Or.inl ⟨by rfl, ?_⟩) hHeld ?_ ?_
                rotate_left
                · rintro w' ⟨s0, s1, s2, s3, s4, s5, s6, s7, s8, s9, s10⟩
                  go_simp
                  with_reducible rfl
                rotate_left
                · simp only [Act.put, List.setIfInBounds_toArray, List.set_cons_zero, List.set_cons_succ, i64_w, i32_w, xu32_w, xu8_w]
                  rfl
                refine one_ (i := 12) (N := some 109) #[true, true, true, true, true, true, true, true, true, true, true, true, true, false, false, false, false, false, false, false, false, false, false] rfl rfl (one_of HT_.out (by kernel_rfl)) (by decide) (fun K hK => ?_)
                refine goes_ Try.func25 (by kernel_rfl) rfl #[.pointer (some ⟨D2, 0, none⟩), .pointer (some ⟨g2, 0, none⟩), .string c.f1] (by rfl) rfl rfl (by (try simp only [List.map_toArray, List.map_cons, List.map_nil]); first | done | rfl) ?_
                with_reducible refine (same_law Hg.out.1.tab Hg.out.1.was c.f1).mono ?_
                rintro e wh ⟨rfl, hb⟩
                refine ⟨_, rfl, ?_⟩
                have Hh := Aside0.mk (And.intro (Hg.out.1.then_ hb) ((hb.block X (heap_lt Hg.out.2)).trans Hg.out.2))
                clear hb
                refine hK.out _ _ (cellsX Hh.out.2) (fun hHeld => ?_)
                clear hK K
                refine norm_ (a' := ?_) ?_ ?_
                rotate_left
                · show Act.put _ (some 109) _ = _
                  simp only [Act.put, List.setIfInBounds_toArray, List.set_cons_zero, List.set_cons_succ, i64_w, i32_w, xu32_w, xu8_w]
                  rfl
                refine pure_ (i := 13) (N := some 110) (v := ?_) (a' := ?_) #[true, true, true, true, true, true, true, true, true, true, true, true, true, true, false, false, false, false, false, false, false, false, false] rfl rfl (any_of HT_.out (by kernel_rfl)) (fun _ _ _ h => h) (Or.inl ⟨by rfl, ?_⟩) ?_ ?_
                rotate_left
                · intro w'
                  go_simp
                  with_reducible rfl
                rotate_left
                · simp only [Act.put, List.setIfInBounds_toArray, List.set_cons_zero, List.set_cons_succ, i64_w, i32_w, xu32_w, xu8_w]
                  rfl
                refine pure_ (i := 14) (N := some 111) (v := ?_) (a' := ?_) #[true, true, true, true, true, true, true, true, true, true, true, true, true, true, true, false, false, false, false, false, false, false, false] rfl rfl (any_of HT_.out (by kernel_rfl)) (fun _ _ _ h => h) (Or.inl ⟨by rfl, ?_⟩) ?_ ?_
                rotate_left
                · intro w'
                  go_simp
                  with_reducible rfl
                rotate_left
                · simp only [Act.put, List.setIfInBounds_toArray, List.set_cons_zero, List.set_cons_succ, i64_w, i32_w, xu32_w, xu8_w]
                  rfl
                refine pure_ (i := 15) (N := some 112) (v := ?_) (a' := ?_) #[true, true, true, true, true, true, true, true, true, true, true, true, true, true, true, true, false, false, false, false, false, false, false] rfl rfl (any_of HT_.out (by kernel_rfl)) (fun _ _ _ h => h) (Or.inl ⟨by rfl, ?_⟩) ?_ ?_
                rotate_left
                · intro w'
                  go_simp
                  with_reducible rfl
                rotate_left
                · simp only [Act.put, List.setIfInBounds_toArray, List.set_cons_zero, List.set_cons_succ, i64_w, i32_w, xu32_w, xu8_w]
                  rfl
                refine pure_ (i := 16) (N := some 113) (v := ?_) (a' := ?_) #[true, true, true, true, true, true, true, true, true, true, true, true, true, true, true, true, true, false, false, false, false, false, false] rfl rfl (any_of HT_.out (by kernel_rfl)) (fun _ _ _ h => h) (Or.inl ⟨by rfl, ?_⟩) ?_ ?_
                rotate_left
                · intro w'
                  go_simp
                  with_reducible rfl
                rotate_left
                · simp only [Act.put, List.setIfInBounds_toArray, List.set_cons_zero, List.set_cons_succ, i64_w, i32_w, xu32_w, xu8_w]
                  rfl
                refine pure_ (i := 17) (N := some 114) (v := ?_) (a' := ?_) #[true, true, true, true, true, true, true, true, true, true, true, true, true, true, true, true, true, true, false, false, false, false, false] rfl rfl (any_of HT_.out (by kernel_rfl)) (fun _ _ _ h => h) (Or.inl ⟨by rfl, ?_⟩) ?_ ?_
                rotate_left
                · intro w'
                  go_simp
                  with_reducible rfl
                rotate_left
                · simp only [Act.put, List.setIfInBounds_toArray, List.set_cons_zero, List.set_cons_succ, i64_w, i32_w, xu32_w, xu8_w]
                  rfl
                refine pure_ (i := 18) (N := some 115) (v := ?_) (a' := ?_) #[true, true, true, true, true, true, true, true, true, true, true, true, true, true, true, true, true, true, true, false, false, false, false] rfl rfl (any_of HT_.out (by kernel_rfl)) (fun _ _ _ h => h) (Or.inl ⟨by rfl, ?_⟩) ?_ ?_
                rotate_left
                · intro w'
                  go_simp
                  with_reducible rfl
                rotate_left
                · simp only [Act.put, List.setIfInBounds_toArray, List.set_cons_zero, List.set_cons_succ, i64_w, i32_w, xu32_w, xu8_w]
                  rfl
                refine take_ (i := 19) (N := some 116) (v := ?_) (a' := ?_) #[true, true, true, true, true, true, true, true, true, true, true, true, true, true, true, true, true, true, true, true, false, false, false] rfl rfl (take_ofW HT_.out HW_.out (by kernel_rfl)) (fun _ _ _ h => h) (Or.inl ⟨by rfl, ?_⟩) hHeld ?_ ?_
                rotate_left
                · rintro w' ⟨s0, s1, s2, s3, s4, s5, s6, s7, s8, s9, s10⟩
                  go_simp
                  with_reducible rfl
                rotate_left
                · simp only [Act.put, List.setIfInBounds_toArray, List.set_cons_zero, List.set_cons_succ, i64_w, i32_w, xu32_w, xu8_w]
                  rfl
                refine one_ (i := 20) (N := some 117) #[true, true, true, true, true, true, true, true, true, true, true, true, true, true, true, true, true, true, true, true, true, false, false] rfl rfl (one_of HT_.out (by kernel_rfl)) (by decide) (fun K hK => ?_)
                refine goes_ Try.func25 (by kernel_rfl) rfl #[.pointer (some ⟨D, 0, none⟩), .pointer (some ⟨g, 0, none⟩), .string c.f1] (by rfl) rfl rfl (by (try simp only [List.map_toArray, List.map_cons, List.map_nil]); first | done | rfl) ?_
                with_reducible refine (same_law Hh.out.1.two.lv.tab Hh.out.1.two.rf c.f1).mono ?_
                rintro e wi ⟨rfl, hb⟩
                refine ⟨_, rfl, ?_⟩
                have Hi := Aside0.mk (And.intro (Hh.out.1.then_ hb) ((hb.block X (heap_lt Hh.out.2)).trans Hh.out.2))
                clear hb
                refine hK.out _ _ (cellsX Hi.out.2) (fun hHeld => ?_)
                clear hK K
                refine norm_ (a' := ?_) ?_ ?_
                rotate_left
                · show Act.put _ (some 117) _ = _
                  simp only [Act.put, List.setIfInBounds_toArray, List.set_cons_zero, List.set_cons_succ, i64_w, i32_w, xu32_w, xu8_w]
                  rfl
                refine pure_ (i := 21) (N := some 118) (v := ?_) (a' := ?_) #[true, true, true, true, true, true, true, true, true, true, true, true, true, true, true, true, true, true, true, true, true, true, false] rfl rfl (any_of HT_.out (by kernel_rfl)) (fun _ _ _ h => h) (Or.inl ⟨by rfl, ?_⟩) ?_ ?_
                rotate_left
                · intro w'
                  go_simp
                  with_reducible rfl
                rotate_left
                · simp only [Act.put, List.setIfInBounds_toArray, List.set_cons_zero, List.set_cons_succ, i64_w, i32_w, xu32_w, xu8_w]
                  rfl
                refine pure_ (i := 22) (N := some 119) (v := ?_) (a' := ?_) #[true, true, true, true, true, true, true, true, true, true, true, true, true, true, true, true, true, true, true, true, true, true, true] rfl rfl (any_of HT_.out (by kernel_rfl)) (fun _ _ _ h => h) (Or.inl ⟨by rfl, ?_⟩) ?_ ?_
                rotate_left
                · intro w'
                  go_simp
                  with_reducible rfl
                rotate_left
                · simp only [Act.put, List.setIfInBounds_toArray, List.set_cons_zero, List.set_cons_succ, i64_w, i32_w, xu32_w, xu8_w]
                  rfl
                refine done_ (done_of HT_.out (by kernel_rfl)) ?_
                clear hHeld HT_ HW_
                go_wp2_with (first
                  | ((with_reducible refine gate_dst (N := 16) rfl ?_); refine box_event ?hg (N := 16) ?hd (cs := #[.bool false, .map none]) (t := 60) ?hr ?_; (case hd => rfl); (case hg => rfl); (case hr => first | (go_simp; done) | (go_simp; rfl)); intro Z hZ wj hj hbj; have Hj := Aside0.mk (show Bare w X c Z wj from ⟨below_step Hi.out.1.two.below hbj, (hbj.block X (heap_lt Hi.out.2)).trans Hi.out.2, hj⟩); clear hZ hj hbj)
                  | (go_at_call 20; have hmark := T10.out; (with_reducible refine (no_clone T10.out.noz).mono ?_); rintro e wz ⟨rfl, h9⟩; subst wz; have T11 := T10; clear hmark)
                  | (go_at_call 20; have hmark := T9.out; (with_reducible refine (no_clone (NoT.nil _)).mono ?_); rintro e wy ⟨rfl, h9⟩; subst wy; have T10 := T9; clear hmark)
                  | (go_at_call 16; have hmark := T8.out; (with_reducible refine (no_reads (NoT.nil _) ⟨#[97]⟩ ⟨#[97]⟩).mono ?_); rintro e wx ⟨rfl, h9⟩; subst wx; have T9 := T8; clear hmark)
                  | (go_at_call 28; have hmark := T7.out; (with_reducible refine (no_keys T7.out.noz).mono ?_); rintro e wv ⟨rfl, h9⟩; subst wv; have T8 := T7; clear hmark)
                  | (go_at_call 19; have hmark := T6.out; (with_reducible refine (no_access T6.out.noz ⟨#[97]⟩).mono ?_); rintro e wu ⟨rfl, h9⟩; subst wu; have T7 := T6; clear hmark)
                  | (go_at_call 21; have hmark := T5.out; (with_reducible refine (no_names (NoT.nil _)).mono ?_); rintro e wt ⟨rfl, h9⟩; subst wt; have T6 := T5; clear hmark)
                  | (go_at_call 14; have hmark := T4.out; (with_reducible refine (no_do T4.out.noz c).mono ?_); rintro e ws ⟨rfl, hb⟩; have T5 := Aside0.mk (T4.out.then_ hb); clear x0 x1 x2 x3 x4 x5 x6 x7 x8 x9 x10; obtain ⟨x0, x1, x2, x3, x4, x5, x6, x7, x8, x9, x10⟩ := cellsX T5.out.blkX; clear hmark hb)
                  | (go_at_call 14; have hmark := T3.out; (with_reducible refine (no_do (NoT.nil _) c).mono ?_); rintro e wr2 ⟨rfl, hb⟩; have T4 := Aside0.mk (T3.out.then_ hb); clear x0 x1 x2 x3 x4 x5 x6 x7 x8 x9 x10; obtain ⟨x0, x1, x2, x3, x4, x5, x6, x7, x8, x9, x10⟩ := cellsX T4.out.blkX; clear hmark hb)
                  | (go_at_call 22; have hmark := T2.out; (with_reducible refine (no_key T2.out.noz ⟨#[97]⟩ 1).mono ?_); rintro e wq ⟨rfl, h9⟩; subst wq; have T3 := T2; clear hmark)
                  | ((with_reducible refine gate_ (.store 39 (.tmp 17) (.tmp 123)) rfl ?_); refine store_blk rfl 39 (.tmp 17) (.tmp 123) rfl Y2 (ten z39 (.slice none 0 0) (.slice none 0 0)) (ten z39 (.slice none 0 0) (.slice none 0 0)) rfl rfl T1.out.2.1 rfl size39 nil_one ?_; intro wp ha hka hba; have T2 := Aside0.mk (T0.out.then_ (hba wk T1.out.2.2.2 T1.out.2.2.1)); clear ha hka hba; obtain ⟨x0, x1, x2, x3, x4, x5, x6, x7, x8, x9, x10⟩ := cellsX T2.out.blkX)
                  | ((with_reducible refine gate_dst (N := 17) rfl ?_); refine box_event ?hg (N := 17) ?hd (cs := (ten z39 (.slice none 0 0) (.slice none 0 0)).toArray) (t := 39) ?hr ?_; (case hd => rfl); (case hg => rfl); (case hr => first | (go_simp; done) | (go_simp; rfl)); intro Y2 hY2 wl h2 hb2; have T1 := Aside0.mk (And.intro (T0.out.then_ hb2) (And.intro h2 (And.intro hb2 (show wk.heap.size ≤ Y2 by omega)))); clear hY2 h2 hb2)
                  | (go_at_call 15; have hmark := Hj.out; (with_reducible refine (no_get (NoT.nil _) ⟨#[97]⟩).mono ?_); rintro e wk ⟨rfl, hb⟩; have T0 := Aside0.mk (Hj.out.then_ hb); clear hmark hb))
                go_ret
                exact ⟨rfl, T11.out.below⟩
end Go.Proofs.Yticoaaddhhiglaa.T
