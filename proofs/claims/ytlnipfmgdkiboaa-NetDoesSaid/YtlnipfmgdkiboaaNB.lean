import Derived.Test.YtlnipfmgdkiboaaNF
import Derived.Test.YtlnipfmgdkiboaaQ9
/- The laws by hand: spoil writes over the letters' bytes, and over nothing else. -/
namespace Go.Proofs.Ytlnipfmgdkiboaa.N
open Go.RowKit Go.Proofs.Ytlnipfmgdkiboaa.Q Go.Proofs.YtlnipfmgdkiboaaW.PrintWords Go.Proofs.YtlnipfmgdkiboaaW.PrintLast Go.Proofs.YtlnipfmgdkiboaaW.PrintMore
set_option linter.unusedVariables false
set_option linter.unusedSimpArgs false
/-- What spoiling leaves: of the blocks T bytes are other bytes, all others stay. -/
structure Spoilt (T : Nat → Prop) (w w' : World) : Prop where
  os : w'.os = w.os
  tape : w'.tape = w.tape
  output : w'.output = w.output
  size : w.heap.size ≤ w'.heap.size
  block : ∀ k, k < w.heap.size → ¬ T k → w'.heap[k]? = w.heap[k]?
  bytes : ∀ (p : Addr) (b : Int), T p.block → w.cell? p = some (.int .u8 b) → w.frozen? p = false → ∃ b', w'.cell? p = some (.int .u8 b') ∧ w'.frozen? p = false
theorem Spoilt.refl (T : Nat → Prop) (w : World) : Spoilt T w w := ⟨rfl, rfl, rfl, Nat.le_refl _, fun _ _ _ => rfl, fun p b _ h f => ⟨b, h, f⟩⟩
theorem Spoilt.trans {T : Nat → Prop} {w w1 w2 : World} (h1 : Spoilt T w w1) (h2 : Spoilt T w1 w2) : Spoilt T w w2 :=
  ⟨h2.os.trans h1.os, h2.tape.trans h1.tape, h2.output.trans h1.output, Nat.le_trans h1.size h2.size, fun k hk hn => (h2.block k (Nat.lt_of_lt_of_le hk h1.size) hn).trans (h1.block k hk hn), fun p b ht hc hf => by
    obtain ⟨b1, hc1, hf1⟩ := h1.bytes p b ht hc hf
    exact h2.bytes p b1 ht hc1 hf1⟩
theorem cell_lt {w : World} {p : Addr} {v : Value} (h : w.cell? p = some v) : p.block < w.heap.size := by
  unfold World.cell? at h
  cases hb : w.heap[p.block]? with
  | none => rw [hb] at h; cases h
  | some o => exact heap_lt hb
theorem cell_same {w w' : World} {p : Addr} (h : w'.heap[p.block]? = w.heap[p.block]?) : w'.cell? p = w.cell? p := by unfold World.cell?; rw [h]
theorem frozen_same {w w' : World} {p : Addr} (h : w'.heap[p.block]? = w.heap[p.block]?) : w'.frozen? p = w.frozen? p := by unfold World.frozen?; rw [h]
theorem Spoilt.of_below (T : Nat → Prop) {w w' : World} (h : Below w.heap.size w w') : Spoilt T w w' :=
  ⟨h.os, h.tape, h.output, h.size, fun k hk _ => h.block k hk, fun p b _ hc hf => ⟨b, (cell_same (h.block _ (cell_lt hc))).trans hc, (frozen_same (h.block _ (cell_lt hc))).trans hf⟩⟩
theorem Spoilt.set {T : Nat → Prop} (w : World) (p : Addr) (b : Int) (hT : T p.block) : Spoilt T w (w.setCell p (.int .u8 b)) :=
  ⟨rfl, rfl, rfl, Nat.le_of_eq (by simp [World.setCell]), fun k _ hn => Below.heap_setCell w p _ k (fun e => hn (e ▸ hT)), fun q c _ hc hf => by
    by_cases e : p = q
    · subst e
      exact ⟨b, by apply World.cell?_setCell_same; exact hc, by rw [World.frozen?_setCell]; exact hf⟩
    · exact ⟨c, by rw [World.cell?_setCell_other (h := e)]; exact hc, by rw [World.frozen?_setCell]; exact hf⟩⟩
/-- Bytes that may be spoilt: they lie in the blocks T. -/
def Byt (w : World) (T : Nat → Prop) (A1 : Option Addr) (m : Nat) : Prop := ∀ t, t < m → ∃ ae b, A1 = some ae ∧ T (ae.add t).block ∧ w.cell? (ae.add t) = some (.int .u8 b) ∧ w.frozen? (ae.add t) = false
theorem Byt.move {w w' : World} {T : Nat → Prop} {A1 : Option Addr} {m : Nat} (h : Byt w T A1 m) (hs : Spoilt T w w') : Byt w' T A1 m := fun t ht => by
  obtain ⟨ae, b, e, hT, hc, hf⟩ := h t ht
  obtain ⟨b', hc', hf'⟩ := hs.bytes _ b hT hc hf
  exact ⟨ae, b', e, hT, hc', hf'⟩
/-- Letters that may be spoilt. -/
def Spo (w : World) (T : Nat → Prop) (A : Option Addr) (n : Nat) : Prop :=
  ∀ j, j < n → ∃ ad tv A1 m c1, A = some ad ∧ w.cell? (ad.add (j * 2)) = some (.int .i64 tv) ∧ w.cell? ⟨(ad.add (j * 2)).block, (ad.add (j * 2)).off + 1, none⟩ = some (.slice A1 m c1) ∧ m ≤ c1 ∧ m ≤ 140737488355328 ∧ ¬ T (ad.add (j * 2)).block ∧
    Byt w T A1 m
theorem Spo.move {w w' : World} {T : Nat → Prop} {A : Option Addr} {n : Nat} (h : Spo w T A n) (hs : Spoilt T w w') : Spo w' T A n := fun j hj => by
  obtain ⟨ad, tv, A1, m, c1, hA, x0, x1, hm, hm2, hn, hb⟩ := h j hj
  refine ⟨ad, tv, A1, m, c1, hA, ?_, ?_, hm, hm2, hn, hb.move hs⟩
  · exact (cell_same (hs.block _ (cell_lt x0) hn)).trans x0
  · exact (cell_same (w := w) (p := ⟨(ad.add (j * 2)).block, (ad.add (j * 2)).off + 1, none⟩) (hs.block (ad.add (j * 2)).block (cell_lt x0) hn)).trans x1
set_option maxHeartbeats 2000000 in
set_option maxRecDepth 100000 in
theorem spoil_calls (A : Option Addr) (n c : Nat) (w : World) (T : Nat → Prop) (hT : ∀ k, T k → k < w.heap.size) (h : Spo w T A n) (hc : n ≤ c) (hn : n ≤ 9000000000000000000) :
    Calls Try.prog 35 #[.slice A n c] w fun e w' => e = .returned (.tuple #[]) ∧ Spoilt T w w' := by
  have HS := Aside0.mk h
  have HT := Aside0.mk hT
  clear h hT
  go_enter Try.func35, Try.ntmps35
  go_wp2_with (fail)
  go_loopg [7] (n + 1) (fun kq v7 wr => ∃ i : Nat, v7 = .int .i64 i ∧ Aside0 (kq + i = n + 1 ∧ i ≤ n) ∧ Aside0 (Spoilt T w wr))
  case atStart => exact ⟨0, rfl, ⟨by omega⟩, ⟨Spoilt.refl _ _⟩⟩
  case round =>
    obtain ⟨i, rfl, HI, HW⟩ := hrel
    cases gk with
    | zero => have := HI.out; omega
    | succ k1 =>
    by_cases hi : i < n
    · have hi0 : (0 : Int) ≤ (i : Int) := by omega
      have hi1 : (i : Int) < (n : Int) := by omega
      obtain ⟨ad, tv, A1, m, c1, hA, x0, x1, hm, hm2, hnT, hby⟩ := HS.out.move HW.out i hi
      have HBY := Aside0.mk hby
      have HM := Aside0.mk hm2
      subst hA
      clear hi hm2 hnT hby
      go_wp2_with (first
        | ((with_reducible refine gate_dst (N := 3) rfl ?_); refine box_event ?hg (N := 3) ?hd (cs := (leL 0 none 0 0).toArray) (t := 34) ?hr ?_; (case hd => rfl); (case hg => rfl); (case hr => first | (go_simp; done) | (go_simp; rfl)); intro X hX w1 hx1 hb1; have H1 := Aside0.mk (And.intro hx1 (And.intro hb1 (show wr.heap.size ≤ X by omega))); clear hX hx1 hb1)
        | ((with_reducible refine gate_ (.store 34 (.tmp 3) (.tmp 10)) rfl ?_); refine store_blk rfl 34 (.tmp 3) (.tmp 10) rfl X (leL 0 none 0 0) (leL tv A1 m c1) rfl rfl H1.out.1 rfl size34 (leL_one _ _ _ _) ?_; intro w2 ha hka hba; have hbb := hba wr H1.out.2.2 H1.out.2.1; have H2 := Aside0.mk hbb; have HX2 := Aside0.mk ha; clear x0 x1; obtain ⟨y0, y1⟩ := cellsL ha; clear ha hka hba hbb))
      rename World => wo
      have HTX := Aside0.mk (show ¬ T X from fun e => by have h1 := HT.out X e; have h2 := HW.out.size; have h3 := H1.out.2.2; omega)
      clear y0 y1
      go_loopg [14] (m + 1) (fun kq v14 wr => ∃ t : Nat, v14 = .int .i64 t ∧ Aside0 (kq + t = m + 1 ∧ t ≤ m) ∧ Aside0 (Spoilt T wo wr))
      case atStart => exact ⟨0, rfl, ⟨by omega⟩, ⟨Spoilt.refl _ _⟩⟩
      case round =>
        obtain ⟨t, rfl, HJ, HQ⟩ := hrel
        cases gk with
        | zero => have := HJ.out; omega
        | succ k2 =>
        obtain ⟨y0, y1⟩ := cellsL ((HQ.out.block X (heap_lt HX2.out) HTX.out).trans HX2.out)
        by_cases ht : t < m
        · have ht0 : (0 : Int) ≤ (t : Int) := by omega
          have ht1 : (t : Int) < (m : Int) := by omega
          have ht2 : (t : Int) + 1 ≤ 9223372036854775807 := by have := HM.out; omega
          obtain ⟨ae, b, hA1, hTe, hce, hfe⟩ := HBY.out.move ((Spoilt.of_below T H2.out).trans HQ.out) t ht
          subst hA1
          have HTE := Aside0.mk hTe
          clear ht hTe
          go_wp2_with (fail)
          go_roundg k2
          case measure => omega
          case rel => exact ⟨t + 1, by first | rfl | (simp; done) | (rw [wrap64_self (n := (t : Int) + 1) (by omega) (by omega)]; first | rfl | (simp; done)), ⟨by have := HJ.out; omega⟩, ⟨HQ.out.trans (Spoilt.set _ _ _ HTE.out)⟩⟩
        · have ht1 : ¬ (t : Int) < (m : Int) := by omega
          clear ht
          go_wp2_with (fail)
          go_roundg k1
          case measure => omega
          case rel => exact ⟨i + 1, by first | rfl | (simp; done) | (rw [wrap64_self (n := (i : Int) + 1) (by omega) (by omega)]; first | rfl | (simp; done)), ⟨by have := HI.out; omega⟩, ⟨HW.out.trans ((Spoilt.of_below T H2.out).trans HQ.out)⟩⟩
    · have hi1 : ¬ (i : Int) < (n : Int) := by omega
      clear hi
      go_wp2_with (fail)
      (first | go_end0 | ((try simp only [Exit.inBlock, Exit.then]); refine bodyPost_ret (results_none rfl _ _ _) rfl ?_))
      exact ⟨rfl, HW.out⟩
end Go.Proofs.Ytlnipfmgdkiboaa.N
/- The laws by hand: owned (letters in memory of their own). -/
namespace Go.Proofs.Ytlnipfmgdkiboaa.N
open Go.RowKit Go.Proofs.Ytlnipfmgdkiboaa.Q Go.Proofs.YtlnipfmgdkiboaaW.PrintWords Go.Proofs.YtlnipfmgdkiboaaW.PrintLast Go.Proofs.YtlnipfmgdkiboaaW.PrintMore
set_option linter.unusedVariables false
set_option linter.unusedSimpArgs false
def owned.T5 : Bool × List (List Nat × List Nat) := (true, [([], []), ([], []), ([1], [1]), ([], []), ([3], [3]), ([4], [4]), ([5], [5]), ([2, 6], [2, 6]), ([7], [7]), ([0, 8, 6], [0, 8]), ([9, 9, 0, 1, 2, 3, 4, 5, 6, 7, 8, 9], [0, 9])])
def owned.B5 : List Nat := [0, 0, 2, 0, 8, 24, 56, 126, 254, 511, 1023]
theorem owned.tab5 : rtab .any (opsOf Try.f33 5) = owned.T5 := by kernel_rfl
theorem owned.bits5 : waitsOk owned.T5.2 owned.B5 = true := by kernel_rfl
theorem ps2 {w' : World} {L : Nat} {a b : Value} (hL : w'.heap[L]? = some (.cells #[a, b] 34 (0, 0))) : w'.cell? ⟨L, 0, none⟩ = some a ∧ w'.cell? ⟨L, 1, none⟩ = some b :=
  ⟨(blk_cell hL 0).trans rfl, (blk_cell hL 1).trans rfl⟩
theorem join_f (l : List Int) (h : l.length < 140737488355328) : manometerref01_Join.f 3 [l] = some l := by
  have h0 : ([] : List Int).length + (rd_L3 [l] 0).length < 140737488355328 := by simp only [rd_L3, List.length_nil]; simpa using h
  simp only [manometerref01_Join.f, manometerref01_Join.l0, List.length_singleton]
  rw [if_pos (by decide), if_pos (by decide), if_pos (by decide), if_pos h0, if_neg (by simp [wrap64])]
  simp [rd_L3]
theorem join_lit {W : World} {A : Option Addr} {n c : Nat} {l : List Int} (hC : (Kd.int .u8).C W A n l) (hc : n ≤ c) (hn : n = l.length) (hl : n < 140737488355328) :
    Calls Try.prog 44 #[.slice (some ⟨W.heap.size, 0, none⟩) 1 1] (W.alloc (.cells #[.slice A n c] 32)) fun e w' => ∃ A2 c2, e = .returned (.slice A2 n c2) ∧ (Kd.int .u8).R 5 w' W.heap.size (fun k => W.heap.size ≤ k) (.slice A2 n c2) l ∧ Below W.heap.size W w' := by
  subst hn
  have hx := blk_new W (.cells #[.slice A l.length c] 32)
  have hrow : Kd.C (Kd.slice 5 (Kd.int .u8)) (W.alloc (.cells #[.slice A l.length c] 32)) (some ⟨W.heap.size, 0, none⟩) [l].length [l] := by
    refine ⟨rfl, by simp, fun _ => ⟨_, rfl, fun j p hj => ?_⟩⟩
    cases j with
    | zero =>
      have hp : l = p := Option.some.inj hj
      subst hp
      refine ⟨[.slice A l.length c], rfl, ⟨A, c, rfl, hc, Kd.C_below hC (below_alloc (Below.refl _ _) _)⟩, fun i u hu => ?_⟩
      cases i with
      | zero =>
        have hu' : Value.slice A l.length c = u := Option.some.inj hu
        subst hu'
        rw [add_at]
        exact (blk_cell hx 0).trans rfl
      | succ i => cases hu
    | succ j => cases hj
  refine (manometerref01_Join.calls 3 (some ⟨W.heap.size, 0, none⟩) 1 [l] l _ hrow (Nat.le_refl _) (join_f l hl)).mono fun e w' ⟨v, he, hR, hb⟩ => ?_
  obtain ⟨A2, c2, rfl⟩ := Kd.R_slice hR
  have hs : W.heap.size ≤ (W.alloc (.cells #[.slice A l.length c] 32)).heap.size := (below_alloc (Below.refl W.heap.size W) _).size
  refine ⟨A2, c2, he, Kd.R_lower (Kd.R_mono (Kd.R_bound hR) (fun k hk => Nat.le_trans hs hk.2.1)) hs, (below_alloc (Below.refl W.heap.size W) (.cells #[.slice A l.length c] 32)).trans (hb.mono hs)⟩
set_option maxHeartbeats 2000000 in
set_option maxRecDepth 100000 in
theorem owned_calls (A : Option Addr) (n c : Nat) (ls : List S34) (w : World) (hC : Kd.C k34 w A n ls) (hc : n ≤ c) (hn : n = ls.length) (hsm : n < 4398046511104) (hsh : ∀ x ∈ ls, x.f1.length < 140737488355328) :
    Calls Try.prog 33 #[.slice A n c] w fun e w' => ∃ A' c', e = .returned (.slice A' n c') ∧ k34.R 34 w' w.heap.size (fun k => w.heap.size ≤ k) (.slice A' n c') ls ∧ Below w.heap.size w w' := by
  have HC := Aside0.mk hC
  have HN := Aside0.mk hn
  have HSM := Aside0.mk hsm
  have HSH := Aside0.mk hsh
  clear hC hn hsh
  go_enter Try.func33, Try.ntmps33
  go_wp2_with ((with_reducible refine gate_dst (N := 6) rfl ?_); refine Kd.R_lit k34 w.heap.size 34 ?hg (N := 6) ?hd (xs := ([] : List S34)) (inner := []) (ok := fun k => w.heap.size ≤ k) (okp := fun _ => False) ?hr ?hp (fun _ hk => hk.elim) (Nat.le_refl _) (Below.refl _ _) (Nat.le_refl _) (by simp) ?_; (case hd => rfl); (case hg => rfl); (case hr => first | (go_simp; done) | (go_simp; rfl)); (case hp => exact (Reps.none _ _)); intro v0 w0 ho1 hb1 hg1 hn1; obtain ⟨A0, c0, rfl⟩ := Kd.R_slice ho1; rw [List.length_nil] at ho1; have HR0 := Aside0.mk ho1; have HB0 := Aside0.mk hb1; clear ho1 hb1 hg1 hn1)
  go_loopg [3, 9] (n + 1) (fun kq v3 v9 wr => ∃ (j : Nat) (Aq : Option Addr) (cq : Nat), v9 = .int .i64 j ∧ v3 = .slice Aq j cq ∧ Aside0 (kq + j = n + 1 ∧ j ≤ n) ∧ Aside0 (k34.R 34 wr w.heap.size (fun k => w.heap.size ≤ k) (.slice Aq j cq) (ls.take j)) ∧ Aside0 (Below w.heap.size w wr))
  case atStart => exact ⟨0, _, _, rfl, rfl, ⟨by omega⟩, HR0, HB0⟩
  case round =>
    obtain ⟨j, Aq, cq, rfl, rfl, HJ, HRQ, HB⟩ := hrel
    cases gk with
    | zero => have := HJ.out; omega
    | succ k1 =>
    by_cases hlt : j < n
    · have hi0 : (0 : Int) ≤ (j : Int) := by omega
      have hi1 : (j : Int) < (n : Int) := by omega
      have hi2 : (j : Int) + 1 ≤ 9223372036854775807 := by omega
      have hjl : j < ls.length := by have := HN.out; omega
      obtain ⟨ad, A1, c1, hA, x0, x1, hc1, hd1⟩ := at_T34 (Kd.C_below HC.out HB.out) (j : Int) hi0 hi1
      simp only [Int.toNat_natCast] at x0 x1
      subst hA
      have hx : rd_T34 ls (j : Int) = ls[j] := by unfold rd_T34; rw [Int.toNat_natCast, List.getD_eq_getElem?_getD, List.getElem?_eq_getElem hjl]; rfl
      have HTK := Aside0.mk (show ls.take j ++ [rd_T34 ls (j : Int)] = ls.take (j + 1) by rw [hx]; exact (List.take_succ_eq_append_getElem hjl).symm)
      have HTL := Aside0.mk (show (ls.take (j + 1)).length = j + 1 by rw [List.length_take]; omega)
      have hD2 : (rd_T34 ls (j : Int)).f1.length < 140737488355328 := by rw [hx]; exact HSH.out _ (List.getElem_mem _)
      generalize rd_T34 ls (j : Int) = x at *
      obtain ⟨nx, hnx⟩ : ∃ m : Nat, m = x.f1.length := ⟨_, rfl⟩
      rw [← hnx] at x1 hc1 hd1 hD2
      have HNX := Aside0.mk hnx
      have HD1 := Aside0.mk hc1
      have HD2 := Aside0.mk hD2
      have HV := Aside0.mk (show ∀ k, (Value.slice Aq j cq).ownBlock = some k → k < wr.heap.size from Kd.R_lt HRQ.out)
      have hbd := below_drew1 (below_alloc (Below.refl wr.heap.size wr) (.cells #[.int .i64 x.f0, .slice A1 nx c1] 34))
      have HB0 := Aside0.mk hbd
      have HL0 := Aside0.mk (blk_drew (blk_new wr (.cells #[.int .i64 x.f0, .slice A1 nx c1] 34)))
      have HD0 := Aside0.mk (Kd.C_below hd1 hbd)
      have HS0 := Aside0.mk (Nat.le_trans HB.out.size hbd.size)
      clear hlt hjl hx hD2 hnx hc1 hd1 hbd
      go_wp2_with (fail)
      refine start_ (n := 11) (S := fun w' => w'.cell? ⟨wr.heap.size, 0, none⟩ = some (.int .i64 x.f0) ∧ w'.cell? ⟨wr.heap.size, 1, none⟩ = some (.slice A1 nx c1)) (ds := []) #[false, false, false, false, false, false, false, false, false, false, false] (by kernel_rfl) rfl rfl (ps2 HL0.out) (fun hHeld => ?_); refine with_tabW owned.tab5 owned.bits5 (fun HT_ HW_ => ?_)
      generalize hW0 : (wr.alloc (.cells #[.int .i64 x.f0, .slice A1 nx c1] 34)).drew = W0 at *
      clear hW0
      refine pure_ (i := 0) (N := some 13) (v := ?_) (a' := ?_) #[true, false, false, false, false, false, false, false, false, false, false] rfl rfl (any_of HT_.out (by kernel_rfl)) (fun _ _ _ h => h) (Or.inl ⟨by rfl, ?_⟩) ?_ ?_
      rotate_left
      · intro w'
        go_simp
        with_reducible rfl
      rotate_left
      · simp only [Act.put, List.setIfInBounds_toArray, List.set_cons_zero, List.set_cons_succ, i64_w, i32_w, xu32_w, xu8_w]
        rfl
      refine pure_ (i := 1) (N := some 14) (v := ?_) (a' := ?_) #[true, true, false, false, false, false, false, false, false, false, false] rfl rfl (any_of HT_.out (by kernel_rfl)) (fun _ _ _ h => h) (Or.inl ⟨by rfl, ?_⟩) ?_ ?_
      rotate_left
      · intro w'
        go_simp
        with_reducible rfl
      rotate_left
      · simp only [Act.put, List.setIfInBounds_toArray, List.set_cons_zero, List.set_cons_succ, i64_w, i32_w, xu32_w, xu8_w]
        rfl
      refine pure_ (i := 3) (N := some 16) (v := ?_) (a' := ?_) #[true, true, false, true, false, false, false, false, false, false, false] rfl rfl (any_of HT_.out (by kernel_rfl)) (fun _ _ _ h => h) (Or.inl ⟨by rfl, ?_⟩) ?_ ?_
      rotate_left
      · intro w'
        go_simp
        with_reducible rfl
      rotate_left
      · simp only [Act.put, List.setIfInBounds_toArray, List.set_cons_zero, List.set_cons_succ, i64_w, i32_w, xu32_w, xu8_w]
        rfl
      refine take_ (i := 2) (N := some 15) (v := ?_) (a' := ?_) #[true, true, true, true, false, false, false, false, false, false, false] rfl rfl (take_ofW HT_.out HW_.out (by kernel_rfl)) (fun _ _ _ h => h) (Or.inl ⟨by rfl, ?_⟩) hHeld ?_ ?_
      rotate_left
      · rintro w' ⟨s0, s1⟩
        go_simp
        with_reducible rfl
      rotate_left
      · simp only [Act.put, List.setIfInBounds_toArray, List.set_cons_zero, List.set_cons_succ, i64_w, i32_w, xu32_w, xu8_w]
        rfl
      refine take_ (i := 4) (N := some 17) (v := ?_) (a' := ?_) #[true, true, true, true, true, false, false, false, false, false, false] rfl rfl (take_ofW HT_.out HW_.out (by kernel_rfl)) (fun _ _ _ h => h) (Or.inl ⟨by rfl, ?_⟩) hHeld ?_ ?_
      rotate_left
      · rintro w' ⟨s0, s1⟩
        go_simp
        with_reducible rfl
      rotate_left
      · simp only [Act.put, List.setIfInBounds_toArray, List.set_cons_zero, List.set_cons_succ, i64_w, i32_w, xu32_w, xu8_w]
        rfl
      refine one_ (i := 5) (N := some 18) #[true, true, true, true, true, true, false, false, false, false, false] rfl rfl (one_of HT_.out (by kernel_rfl)) (by decide) (fun K hK => ?_)
      refine value_ (v := .slice (some ⟨W0.heap.size, 0, none⟩) 1 1) (w1 := W0.alloc (.cells #[.slice A1 nx c1] 32)) (by rfl) rfl (by first | (go_simp; done) | (go_simp; rfl)) ?_
      refine hK.out _ _ (ps2 (blk_alloc HL0.out _)) (fun hHeld => ?_)
      clear hK K
      refine norm_ (a' := ?_) ?_ ?_
      rotate_left
      · show Act.put _ (some 18) _ = _
        simp only [Act.put, List.setIfInBounds_toArray, List.set_cons_zero, List.set_cons_succ, i64_w, i32_w, xu32_w, xu8_w]
        rfl
      refine one_ (i := 6) (N := some 19) #[true, true, true, true, true, true, true, false, false, false, false] rfl rfl (one_of HT_.out (by kernel_rfl)) (by decide) (fun K hK => ?_)
      refine goes_ Try.func44 (by kernel_rfl) rfl #[.slice (some ⟨W0.heap.size, 0, none⟩) 1 1] (by rfl) rfl rfl (by (try simp only [List.map_toArray, List.map_cons, List.map_nil]); first | done | rfl) ?_
      with_reducible refine (join_lit HD0.out HD1.out HNX.out HD2.out).mono ?_
      rintro e w1 ⟨A2, c2, rfl, hR1, hb1⟩
      refine ⟨_, rfl, ?_⟩
      have HL1 := Aside0.mk (blk_below HL0.out hb1)
      have HR1 := Aside0.mk hR1
      have HB1 := Aside0.mk hb1
      clear hR1 hb1
      refine hK.out _ _ (ps2 HL1.out) (fun hHeld => ?_)
      clear hK K
      refine norm_ (a' := ?_) ?_ ?_
      rotate_left
      · show Act.put _ (some 19) _ = _
        simp only [Act.put, List.setIfInBounds_toArray, List.set_cons_zero, List.set_cons_succ, i64_w, i32_w, xu32_w, xu8_w]
        rfl
      refine pure_ (i := 7) (N := some 20) (v := ?_) (a' := ?_) #[true, true, true, true, true, true, true, true, false, false, false] rfl rfl (any_of HT_.out (by kernel_rfl)) (fun _ _ _ h => h) (Or.inl ⟨by rfl, ?_⟩) ?_ ?_
      rotate_left
      · intro w'
        go_simp
        with_reducible rfl
      rotate_left
      · simp only [Act.put, List.setIfInBounds_toArray, List.set_cons_zero, List.set_cons_succ, i64_w, i32_w, xu32_w, xu8_w]
        rfl
      refine one_ (i := 8) (N := some 21) #[true, true, true, true, true, true, true, true, true, false, false] rfl rfl (one_of HT_.out (by kernel_rfl)) (by decide) (fun K hK => ?_)
      refine value_ (v := .slice (some ⟨w1.heap.size, 0, none⟩) 1 1) (w1 := w1.alloc (.cells #[.int .i64 x.f0, .slice A2 nx c2] 34)) (by rfl) rfl (by first | (go_simp; done) | (go_simp; rfl)) ?_
      refine hK.out _ _ (ps2 (blk_alloc HL1.out _)) (fun hHeld => ?_)
      clear hK K
      refine norm_ (a' := ?_) ?_ ?_
      rotate_left
      · show Act.put _ (some 21) _ = _
        simp only [Act.put, List.setIfInBounds_toArray, List.set_cons_zero, List.set_cons_succ, i64_w, i32_w, xu32_w, xu8_w]
        rfl
      refine one_ (i := 9) (N := some 22) #[true, true, true, true, true, true, true, true, true, true, false] rfl rfl (one_of HT_.out (by kernel_rfl)) (by decide) (fun K hK => ?_)
      refine Kd.R_append_step k34 (w0 := w1) w.heap.size (by rfl) (.tmp 13) (.tmp 21) 29 34 (.agg #[.int .i64 0, .slice none 0 0]) 32 rfl Try.underlying29 info34 rfl (by decide) (by omega) (.slice Aq j cq) (ls.take j) x [.int .i64 x.f0, .slice A2 nx c2] (fun k => w.heap.size ≤ k) (fun k => W0.heap.size ≤ k) rfl rfl ?aP ?aK ?aF ?aO ?aB ?aS ?aL ?_
      (case aP => exact k34_mkM w1 _ _ x (Kd.R_lower HR1.out HS0.out))
      (case aK => exact fun k hk => ⟨Nat.le_trans HS0.out hk, fun e => by have h1 := HV.out k e.symm; have h2 := HB0.out.size; omega⟩)
      (case aF => exact fun k hk => by have h1 := HS0.out; have h2 := HB1.out.size; omega)
      (case aO => exact Kd.R_below HRQ.out (HB0.out.trans (HB1.out.mono HB0.out.size)))
      (case aB => exact Below.refl _ _)
      (case aS => have h1 := HS0.out; have h2 := HB1.out.size; omega)
      (case aL => have h1 := HSM.out; have h2 := HJ.out; rw [List.length_take]; omega)
      intro v2 w3 ho hbB hg hat
      obtain ⟨A3, c3, rfl⟩ := Kd.R_slice ho
      rw [HTK.out] at ho ⊢
      rw [HTL.out] at ho ⊢
      have HL3 := Aside0.mk ((hg.block wr.heap.size (heap_lt HL1.out) (fun e => by have h1 := HV.out _ e.symm; omega)).trans HL1.out)
      have HR3 := Aside0.mk ho
      have HB3 := Aside0.mk (below_trans_grown (B := w.heap.size) (HB.out.trans ((HB0.out.trans (HB1.out.mono HB0.out.size)).mono HB.out.size)) hg (fun k e => HRQ.out.1 k e.symm) (by have h1 := HS0.out; have h2 := HB1.out.size; omega))
      clear ho hbB hg hat
      refine hK.out _ _ (ps2 HL3.out) (fun hHeld => ?_)
      clear hK K
      refine norm_ (a' := ?_) ?_ ?_
      rotate_left
      · show Act.put _ (some 22) _ = _
        simp only [Act.put, List.setIfInBounds_toArray, List.set_cons_zero, List.set_cons_succ, i64_w, i32_w, xu32_w, xu8_w]
        rfl
      refine pure_ (i := 10) (N := some 3) (v := ?_) (a' := ?_) #[true, true, true, true, true, true, true, true, true, true, true] rfl rfl (any_of HT_.out (by kernel_rfl)) (fun _ _ _ h => h) (Or.inl ⟨by rfl, ?_⟩) ?_ ?_
      rotate_left
      · intro w'
        go_simp
        with_reducible rfl
      rotate_left
      · simp only [Act.put, List.setIfInBounds_toArray, List.set_cons_zero, List.set_cons_succ, i64_w, i32_w, xu32_w, xu8_w]
        rfl
      refine done_ (done_of HT_.out (by kernel_rfl)) ?_
      try go_wp2
      go_roundg k1
      case measure => omega
      case rel => exact ⟨j + 1, A3, c3, by first | rfl | (simp; done) | (rw [wrap64_self (n := (j : Int) + 1) (by omega) (by omega)]; first | rfl | (simp; done)), rfl, ⟨by have := HJ.out; omega⟩, HR3, HB3⟩
    · have hj : j = n := by have := HJ.out; omega
      subst hj
      clear hlt
      go_wp2_with (fail)
      go_ret
      have h1 := HRQ.out
      rw [List.take_of_length_le (by have := HN.out; omega)] at h1
      exact ⟨Aq, cq, rfl, h1, HB.out⟩
end Go.Proofs.Ytlnipfmgdkiboaa.N
/- The document's network by hand: what it is; Of. -/
namespace Go.Proofs.Ytlnipfmgdkiboaa.N
open Go.RowKit Go.Proofs.Ytlnipfmgdkiboaa.Q Go.Proofs.YtlnipfmgdkiboaaW.PrintWords Go.Proofs.YtlnipfmgdkiboaaW.PrintLast Go.Proofs.YtlnipfmgdkiboaaW.PrintMore
set_option linter.unusedVariables false
set_option linter.unusedSimpArgs false
theorem info74 : (Try.prog.info? 74).map (fun i => (i.zero, i.size, i.bytes)) = some (some (.agg #[.string ⟨#[]⟩, .slice none 0 0]), 2, 40) := by kernel_rfl
theorem size74 : (Try.prog.info? 74).map (·.size) = some 2 := by kernel_rfl
def kQu : Kd Qu := Kd.iso (Kd.pair Kd.string (Kd.slice 34 k34)) (fun x : Qu => (x.f0, x.f1))
theorem kQu_open {w : World} {x : Qu} {cs : List Value} (h : kQu.K w x cs) : ∃ A1 c1, cs = [.string x.f0, .slice A1 x.f1.length c1] ∧ x.f1.length ≤ c1 ∧ k34.C w A1 x.f1.length x.f1 := by
  obtain ⟨_, _, rfl, rfl, ⟨A1, c1, rfl, l1, g1⟩⟩ := h
  exact ⟨A1, c1, rfl, l1, g1⟩
theorem kQu_mk (w : World) (x : Qu) {A1 : Option Addr} {c1 : Nat} (l1 : x.f1.length ≤ c1) (g1 : k34.C w A1 x.f1.length x.f1) : kQu.K w x [.string x.f0, .slice A1 x.f1.length c1] := ⟨[.string x.f0], [.slice A1 x.f1.length c1], rfl, rfl, ⟨A1, c1, rfl, l1, g1⟩⟩
theorem kQu_mkF' (W : World) (ok : Nat → Prop) (x : Qu) {A1 : Option Addr} {m c1 : Nat} (hm : m = x.f1.length) (l1 : m ≤ c1) (g1 : Kd.F k34 W ok A1 m x.f1) : Kd.FK kQu W ok x [.string x.f0, .slice A1 m c1] := by
  subst hm
  exact fun W2 hW => kQu_mk W2 x l1 (g1 W2 hW)
theorem kQu_openF {W : World} {ok : Nat → Prop} {x : Qu} {cs : List Value} (h : Kd.FK kQu W ok x cs) : ∃ A1 c1, cs = [.string x.f0, .slice A1 x.f1.length c1] ∧ x.f1.length ≤ c1 ∧ Kd.F k34 W ok A1 x.f1.length x.f1 := by
  obtain ⟨A1, c1, rfl, l1, _⟩ := kQu_open (Kd.FK_now h)
  exact ⟨A1, c1, rfl, l1, (fun W' hW => by obtain ⟨A1_, c1_, he, l1_, g1_⟩ := kQu_open (h W' hW); injection (Option.some.inj (show some (Value.slice A1 x.f1.length c1) = some (Value.slice A1_ x.f1.length c1_) from congrArg (fun l => l[1]?) he)) with ha_ _ _; rw [ha_]; exact g1_)⟩
/-- The document's network: its room, its queues by rising names. -/
structure RefG (w : World) (B g : Nat) (room : Int) (ok : Nat → Prop) (v : Value) (st : St) : Prop where
  cells : w.heap[g]? = some (.cells #[.int .i64 room, v] 55 (0, 0))
  row : Kd.N kQu 74 w B (fun k => ok k ∧ k ≠ g) v st
  gB : B ≤ g
  okg : ok g
section
variable {w : World} {B g : Nat} {room : Int} {ok : Nat → Prop} {v : Value} {st : St}
theorem RefG.move {w' : World} {ok' : Nat → Prop} (h : RefG w B g room ok v st) (hm : ∀ k, ok k → k < w.heap.size → w'.heap[k]? = w.heap[k]?) (ho : ∀ k, ok k → k < w.heap.size → ok' k) : RefG w' B g room ok' v st where
  cells := (hm g h.okg (heap_lt h.cells)).trans h.cells
  row := Kd.N_mono (Kd.N_step (Kd.N_bound h.row) (fun k hk hlt => hm k hk.1.1 hlt)) (fun k hk => ⟨ho k hk.1.1 hk.2, hk.1.2⟩)
  gB := h.gB
  okg := ho g h.okg (heap_lt h.cells)
theorem RefG.below {w' : World} (h : RefG w B g room ok v st) (hb : Below w.heap.size w w') : RefG w' B g room ok v st := h.move (fun k _ hk => hb.block k hk) (fun _ hk _ => hk)
theorem RefG.cell (h : RefG w B g room ok v st) : w.cell? ⟨g, 0, none⟩ = some (.int .i64 room) ∧ w.cell? ⟨g, 1, none⟩ = some v :=
  ⟨(blk_cell h.cells 0).trans rfl, (blk_cell h.cells 1).trans rfl⟩
/-- A queue's cells. -/
def quL (s : ByteArray) (A : Option Addr) (n c : Nat) : List Value := [.string s, .slice A n c]
theorem quL_one (s : ByteArray) (A : Option Addr) (n c : Nat) : ∀ v ∈ quL s A n c, v.oneCell' = true := by
  intro v hv
  simp only [quL, List.mem_cons, List.not_mem_nil, or_false] at hv
  rcases hv with rfl | rfl <;> rfl
theorem cellsQ {X : Nat} {s : ByteArray} {A : Option Addr} {n c : Nat} (h : w.heap[X]? = some (.cells (quL s A n c).toArray 74 (0, 0))) : w.cell? ⟨X, 0, none⟩ = some (.string s) ∧ w.cell? ⟨X, 1, none⟩ = some (.slice A n c) :=
  ⟨(blk_cell h 0).trans rfl, (blk_cell h 1).trans rfl⟩
/-- The queue at a place: its cells, and what they lead to. -/
theorem queue_at {n c : Nat} {A : Option Addr} (h : Kd.N kQu 74 w B ok (.slice A n c) st) {i : Nat} (hi : i < st.length) : ∃ ad A1 c1 m, A = some ad ∧ w.cell? (ad.add (i * 2)) = some (.string (st[i]).f0) ∧ w.cell? ⟨(ad.add (i * 2)).block, (ad.add (i * 2)).off + 1, none⟩ = some (.slice A1 m c1) ∧ m = (st[i]).f1.length ∧ m ≤ c1 ∧ Kd.F k34 w ok A1 m (st[i]).f1 := by
  have hn := (Kd.N_reads' h).1
  obtain ⟨ad, c2, rfl, hcl, hFK, hcell, _⟩ := Kd.F_get (Kd.N_F h) (⟨⟨#[]⟩, []⟩ : Qu) (i : Int) (by omega) (by omega)
  rw [Int.toNat_natCast] at hFK hcell
  have hx : st.getD i ⟨⟨#[]⟩, []⟩ = st[i] := by rw [List.getD_eq_getElem?_getD, List.getElem?_eq_getElem hi]; rfl
  rw [hx] at hFK
  obtain ⟨A1, c1, rfl, hl, hF⟩ := kQu_openF hFK
  have hc : ∀ j u, [Value.string (st[i]).f0, .slice A1 (st[i]).f1.length c1][j]? = some u → w.cell? (ad.add (i * 2 + j)) = some u := hcell
  exact ⟨ad, A1, c1, _, rfl, hc 0 _ rfl, by rw [← add_field _ _ 1 (by omega)]; exact hc 1 _ rfl, rfl, hl, hF⟩
theorem look_drop_ : ∀ (st : St) (s : ByteArray) (i : Nat) (hi : i < st.length), look (st.drop i) s = if (st[i]).f0 = s then some st[i] else look (st.drop (i + 1)) s := by
  intro st s i hi
  rw [List.drop_eq_getElem_cons hi]
  rfl
set_option maxHeartbeats 2000000 in
set_option maxRecDepth 100000 in
theorem rof_calls (h : RefG w B g room ok v st) (hf : st.length ≤ 1000) (s : ByteArray) {n : Nat} (hn : n = (ofSt st s).length) :
    Calls Try.prog 39 #[.pointer (some ⟨g, 0, none⟩), .string s] w fun e w' => ∃ A c, e = .returned (.slice A n c) ∧ n ≤ c ∧ Kd.F k34 w' (fun k => ok k ∧ k ≠ g) A n (ofSt st s) ∧ Below w.heap.size w w' := by
  have HN := Aside0.mk hn
  obtain ⟨c0, c1⟩ := h.cell
  obtain ⟨Ar, cr, hv, _, _⟩ := Kd.N_reads h.row
  subst hv
  have HG := Aside0.mk h
  obtain ⟨q, hq⟩ : ∃ q : Nat, q = st.length := ⟨_, rfl⟩
  rw [← hq] at c1 HG hf
  have HQ := Aside0.mk hq
  clear h hn hq
  go_enter Try.func39, Try.ntmps39
  go_wp2_with (fail)
  clear c0 c1
  go_loopg [12] (q + 1) (fun kq v12 wr => ∃ i : Nat, v12 = .int .i64 i ∧ Aside0 (kq + i = q + 1 ∧ i ≤ q) ∧ Aside0 (Below w.heap.size w wr) ∧ Aside0 (look st s = look (st.drop i) s))
  case atStart => exact ⟨0, rfl, ⟨by omega⟩, ⟨Below.refl _ _⟩, ⟨rfl⟩⟩
  case round =>
    obtain ⟨i, rfl, HI, HB, HL⟩ := hrel
    cases gk with
    | zero => have := HI.out; omega
    | succ k1 =>
    by_cases hi : i < q
    · have hi0 : (0 : Int) ≤ (i : Int) := by omega
      have hi1 : (i : Int) < (q : Int) := by omega
      have hi2 : (i : Int) + 1 ≤ 9223372036854775807 := by omega
      have hil : i < st.length := by have := HQ.out; omega
      obtain ⟨ad, A1, c1, m, hA, x0, x1, hm, hmc, hF⟩ := queue_at (HG.out.below HB.out).row hil
      have HLD := Aside0.mk (look_drop_ st s i hil)
      subst hA
      generalize st[i] = x at *
      obtain ⟨xs, xl⟩ := x
      dsimp only at x0 hm hF HLD
      have HF := Aside0.mk hF
      have HM := Aside0.mk (And.intro hm hmc)
      clear hi hil hm hF hmc
      by_cases hs : xs = s
      · have hsb : (xs.toList == s.toList) = true := by rw [hs]; simp
        have HS := Aside0.mk hs
        clear hs
        go_wp2_with (first
          | ((with_reducible refine gate_dst (N := 6) rfl ?_); refine box_event ?hg (N := 6) ?hd (cs := (quL ⟨#[]⟩ none 0 0).toArray) (t := 74) ?hr ?_; (case hd => rfl); (case hg => rfl); (case hr => first | (go_simp; done) | (go_simp; rfl)); intro X hX w1 hx1 hb1; have H1 := Aside0.mk (And.intro hx1 (And.intro hb1 (show wr.heap.size ≤ X by omega))); clear hX hx1 hb1)
          | ((with_reducible refine gate_ (.store 74 (.tmp 6) (.tmp 15)) rfl ?_); refine store_blk rfl 74 (.tmp 6) (.tmp 15) rfl X (quL ⟨#[]⟩ none 0 0) (quL xs A1 m c1) rfl rfl H1.out.1 rfl size74 (quL_one _ _ _ _) ?_; intro w2 ha hka hba; have H2 := Aside0.mk (hba wr H1.out.2.2 H1.out.2.1); clear x0 x1; obtain ⟨y0, y1⟩ := cellsQ ha; clear ha hka hba))
        go_ret
        have hof : ofSt st s = xl := by unfold ofSt; rw [HL.out, HLD.out, if_pos HS.out]
        have e1 : m = n := by rw [HN.out, hof]; exact HM.out.1
        subst e1
        refine ⟨A1, c1, rfl, HM.out.2, ?_, HB.out.trans (H2.out.mono HB.out.size)⟩
        rw [hof]
        exact Kd.F_below HF.out H2.out
      · have hsb : (xs.toList == s.toList) = false := by
          have : xs.toList ≠ s.toList := fun e => hs (str_inj e)
          simpa using this
        have HS := Aside0.mk hs
        clear hs
        go_wp2_with (first
          | ((with_reducible refine gate_dst (N := 6) rfl ?_); refine box_event ?hg (N := 6) ?hd (cs := (quL ⟨#[]⟩ none 0 0).toArray) (t := 74) ?hr ?_; (case hd => rfl); (case hg => rfl); (case hr => first | (go_simp; done) | (go_simp; rfl)); intro X hX w1 hx1 hb1; have H1 := Aside0.mk (And.intro hx1 (And.intro hb1 (show wr.heap.size ≤ X by omega))); clear hX hx1 hb1)
          | ((with_reducible refine gate_ (.store 74 (.tmp 6) (.tmp 15)) rfl ?_); refine store_blk rfl 74 (.tmp 6) (.tmp 15) rfl X (quL ⟨#[]⟩ none 0 0) (quL xs A1 m c1) rfl rfl H1.out.1 rfl size74 (quL_one _ _ _ _) ?_; intro w2 ha hka hba; have H2 := Aside0.mk (hba wr H1.out.2.2 H1.out.2.1); clear x0 x1; obtain ⟨y0, y1⟩ := cellsQ ha; clear ha hka hba))
        go_roundg k1
        case measure => omega
        case rel => exact ⟨i + 1, by first | rfl | (simp; done) | (rw [wrap64_self (n := (i : Int) + 1) (by omega) (by omega)]; first | rfl | (simp; done)), ⟨by have := HI.out; omega⟩, ⟨HB.out.trans (H2.out.mono HB.out.size)⟩, ⟨by rw [HL.out, HLD.out, if_neg HS.out]⟩⟩
    · have hi1 : ¬ (i : Int) < (q : Int) := by omega
      have hof : ofSt st s = [] := by unfold ofSt; rw [HL.out, List.drop_eq_nil_of_le (by have := HQ.out; omega)]; rfl
      have HOF := Aside0.mk hof
      clear hi hof
      go_wp2_with (fail)
      go_ret
      have e1 : n = 0 := by rw [HN.out, HOF.out]; rfl
      subst e1
      refine ⟨none, 0, rfl, Nat.le_refl _, ?_, HB.out⟩
      rw [HOF.out]
      exact Kd.F_nil _ _ _
end
end Go.Proofs.Ytlnipfmgdkiboaa.N
