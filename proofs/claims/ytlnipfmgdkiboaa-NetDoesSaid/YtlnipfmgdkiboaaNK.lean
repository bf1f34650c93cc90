import Derived.Test.YtlnipfmgdkiboaaNC
import Derived.Test.YtlnipfmgdkiboaaN12
/- NetDoes by hand: does. -/
namespace Go.Proofs.Ytlnipfmgdkiboaa.N
open Go.RowKit Go.Proofs.Ytlnipfmgdkiboaa.Q Go.Proofs.YtlnipfmgdkiboaaW.PrintWords Go.Proofs.YtlnipfmgdkiboaaW.PrintLast Go.Proofs.YtlnipfmgdkiboaaW.PrintMore
set_option linter.unusedVariables false
set_option linter.unusedSimpArgs false
theorem Duo.short {w W : World} {N M g : Nat} {room : Int} {own : Nat → Option ByteArray} {Qn Q : ByteArray → List S34} {n : Nat} {I : Nat → Prop} (h : Duo w W N M room own g Qn Q n I) (s : ByteArray) (i : Int) : (takeX Qn s i).f1.length < 140737488355328 := by
  obtain ⟨G, hN⟩ := h.net
  unfold takeX
  split
  · rename_i hi
    rw [List.getD_eq_getElem?_getD, List.getElem?_eq_getElem (by omega)]
    exact hN.short s _ (List.getElem_mem _)
  · show (0 : Nat) < _; decide
theorem Keep2.spoilt {W W' : World} {N M g : Nat} {own : Nat → Option ByteArray} {T : Nat → Prop} {W0 : World} (hk : Keep2 W0 N M g own W own) (hs : Spoilt T W W') (hT : ∀ k, Out own N M k → k < W0.heap.size → ¬ T k) (hsz : W0.heap.size ≤ W.heap.size) : Keep2 W0 N M g own W' own := fun k ho hg hk2 => ⟨(hs.block k (by omega) (hT k ho hk2)).trans (hk k ho hg hk2).1, ho⟩
/-- Letters of one's own are none of the network's. -/
theorem own_out {w W : World} {N M g : Nat} {room : Int} {own : Nat → Option ByteArray} {Qn Q : ByteArray → List S34} {n : Nat} {I : Nat → Prop} (h : Duo w W N M room own g Qn Q n I) {W2 : World} {A : Option Addr} {m c : Nat} {ls : List S34} (hR : k34.R 34 W2 W.heap.size (fun k => W.heap.size ≤ k) (.slice A m c) ls) : Kd.F k34 W2 (Out own N M) A m ls := Kd.F_mono (Kd.R_F hR) (fun k hk => (h.fresh hk).1)
/-- .. and stay while the network, and the document's, act. -/
theorem own_still {w W1 w2 w3 w4 : World} {N M g : Nat} {room : Int} {own own3 : Nat → Option ByteArray} {Qn Q : ByteArray → List S34} {n : Nat} {I I3 : Nat → Prop} (h : Duo w W1 N M room own g Qn Q n I) (hg : g < w2.heap.size) (hb : Below W1.heap.size W1 w2) {v : Value} {ls : List S34} {P : Nat → Prop} (hR : k34.R 34 w2 W1.heap.size (fun k => W1.heap.size ≤ k ∧ W1.heap.size ≤ k ∧ k < w2.heap.size ∧ P k) v ls) (ho : ∀ k, Out own N M k → k < w2.heap.size → w3.heap[k]? = w2.heap[k]?) (hk : Keep2 w3 N M g own3 w4 own3) (hig : ¬ I3 g) (hid : ∀ k, I3 k → k < w3.heap.size ∧ Out own3 N M k) (hI : ∀ k, W1.heap.size ≤ k → k < w2.heap.size → I3 k) : k34.R 34 w4 W1.heap.size (fun k => W1.heap.size ≤ k ∧ W1.heap.size ≤ k ∧ k < w2.heap.size ∧ P k) v ls :=
  Kd.R_step (Kd.R_step hR (fun k hk2 hlt => ho k (h.fresh hk2.1).1 hlt)) (fun k hk2 _ => (hk k (hid k (hI k hk2.1 hk2.2.2.1)).2 (fun e => hig (e ▸ hI k hk2.1 hk2.2.2.1)) (hid k (hI k hk2.1 hk2.2.2.1)).1).1)
theorem same_two (x y : S34) (w : World) (A0 : Option Addr) (c0 : Nat) (A1 : Option Addr) (c1 : Nat) {n m : Nat} (hn : n = x.f1.length) (hm : m = y.f1.length) (h0 : (Kd.int .u8).C w A0 n x.f1) (l0 : n ≤ c0) (h1 : (Kd.int .u8).C w A1 m y.f1) (l1 : m ≤ c1) :
    Calls Try.prog 14 #[.agg #[.int .i64 x.f0, .slice A0 n c0], .agg #[.int .i64 y.f0, .slice A1 m c1]] w fun e w' => e = .returned (.bool (sameL x y)) ∧ Below w.heap.size w w' := by
  subst hn; subst hm
  exact same_calls x y w A0 c0 A1 c1 h0 l0 h1 l1
theorem box_ev82 {ops : Array Oper} {rest : List Oper} {op : Oper} {a : Act} {w : World} {Q : Exit → Act → World → Prop} {N : Nat} (hgd : op.guard = none) (hd : op.dst = some N) {cs : Array Value} (hrun : (execOp a.eval op).run Try.prog w = .ok (.value (.slice (some ⟨w.heap.size, 0, none⟩) 1 1)) (w.alloc (.cells cs 34)))
    (hk : ∀ b w1, w.heap.size ≤ b → w1.heap[b]? = some (.cells cs 34 (0, 0)) → Below w.heap.size w w1 → wpList Try.prog ops Q rest (a.put op.dst (.slice (some ⟨b, 0, none⟩) 1 1)) w1) : wpList Try.prog ops Q (op :: rest) a w :=
  Kd.event_run hgd hrun (hk _ _ (Nat.le_refl _) (blk_new w _) (below_alloc (Below.refl _ _) _))
theorem byt_row {W : World} {base : Nat} {ok : Nat → Prop} {A : Option Addr} {n c : Nat} {xs : List Int} (h : (Kd.int .u8).R 5 W base ok (.slice A n c) xs) (hn : n = xs.length) : (Kd.int .u8).C W A n xs := by
  rw [hn]; exact (Kd.R_reads' h).2.2
theorem byt_cap {W : World} {base : Nat} {ok : Nat → Prop} {A : Option Addr} {n c : Nat} {xs : List Int} (h : (Kd.int .u8).R 5 W base ok (.slice A n c) xs) : n ≤ c := (Kd.R_reads' h).2.1
theorem byt_still {w2 w4 w5 w7 : World} {base N M g : Nat} {own : Nat → Option ByteArray} {T : Nat → Prop} {v : Value} {xs : List Int} (h : (Kd.int .u8).R 5 w2 base T v xs) (hb : Below w2.heap.size w2 w4) (hk : Keep2 w4 N M g own w5 own) (hb7 : Below w5.heap.size w5 w7) (hg : ¬ T g) (hid : ∀ k, T k → k < w4.heap.size ∧ Out own N M k) : (Kd.int .u8).R 5 w7 base T v xs :=
  Kd.R_below (Kd.R_step (Kd.R_below h hb) (fun k hT _ => (hk k (hid k hT).2 (fun e => hg (e ▸ hT)) (hid k hT).1).1)) hb7
def doesA.T15 : Bool × List (List Nat × List Nat) := (true, [([], []), ([], []), ([1], [1]), ([], []), ([3], [3]), ([0, 2, 4], [0, 2, 4]), ([], []), ([], []), ([7], [7]), ([], []), ([9], [9]), ([6, 8, 10, 5], [6, 8, 10]), ([5, 11], [5, 11]), ([12, 11, 0, 1, 2, 3, 4, 5, 6, 7, 8, 9, 10, 11, 12], [12])])
def doesA.B15 : List Nat := [0, 0, 2, 0, 8, 31, 0, 0, 128, 0, 512, 2047, 4095, 8191]
theorem doesA.tab15 : rtab .any (opsOf Try.f21 15) = doesA.T15 := by kernel_rfl
theorem doesA.bits15 : waitsOk doesA.T15.2 doesA.B15 = true := by kernel_rfl
def doesB.T17 : Bool × List (List Nat × List Nat) := (true, [([], []), ([], []), ([1], [1]), ([], []), ([3], [3]), ([0, 2, 4], [0, 2, 4]), ([], []), ([], []), ([7], [7]), ([], []), ([9], [9]), ([6, 8, 10, 5], [6, 8, 10]), ([5, 11], [5, 11]), ([12, 11, 0, 1, 2, 3, 4, 5, 6, 7, 8, 9, 10, 11, 12], [12])])
def doesB.B17 : List Nat := [0, 0, 2, 0, 8, 31, 0, 0, 128, 0, 512, 2047, 4095, 8191]
theorem doesB.tab17 : rtab .any (opsOf Try.f21 17) = doesB.T17 := by kernel_rfl
theorem doesB.bits17 : waitsOk doesB.T17.2 doesB.B17 = true := by kernel_rfl
section
variable {w W : World} {N M g : Nat} {room : Int} {own : Nat → Option ByteArray} {Q : ByteArray → List S34} {n : Nat}
set_option maxHeartbeats 8000000 in
set_option maxRecDepth 100000 in
theorem does_calls (h : Duo w W N M room own g Q Q n (fun _ => False)) (hn : n ≤ 900) (xdo : Int) (s : ByteArray) (hss : s.size ≤ 9223372036854775807) (A : Option Addr) (m c : Nat) (ls : List S34) (xi : Int) (hC : Kd.C k34 w A m ls) (hm : m = ls.length) (hc : m ≤ c) (hml : m < 4398046511104) (hsh : ∀ x ∈ ls, x.f1.length < 140737488355328) :
    Calls Try.prog 21 #[.pointer (some ⟨N, 0, none⟩), .pointer (some ⟨g, 0, none⟩), .agg #[.int .i64 xdo, .string s, .slice A m c, .int .i64 xi]] W fun e W' => e = .returned (.bool true) ∧ ∃ own' Q', Duo w W' N M room own' g Q' Q' (n + 1) (fun _ => False) ∧ Keep2 W N M g own W' own' ∧ W.heap.size ≤ W'.heap.size := by
  have HH := Aside0.mk h
  have HNN := Aside0.mk (show n ≤ 999 by omega)
  have HSS := Aside0.mk hss
  have HC := Aside0.mk hC
  have HML := Aside0.mk (And.intro hm (And.intro hc hml))
  have HSH := Aside0.mk hsh
  clear h hn hss hC hm hc hml hsh
  by_cases e0 : xdo = 0
  · subst e0
    obtain ⟨kk, hkk⟩ : ∃ kk, sendK room Q s ls = kk := ⟨_, rfl⟩
    obtain ⟨E, hE⟩ : ∃ E, sendE s = E := ⟨_, rfl⟩
    have HKK := Aside0.mk (And.intro hkk hE)
    clear hkk hE
    go_enter Try.func21, Try.ntmps21
    go_wp2_with (first
      | ((with_reducible refine gate_dst (N := 5) rfl ?_); refine box_event ?hg (N := 5) ?hd (cs := (opL 0 s A m c xi).toArray) (t := 31) ?hr ?_; (case hd => rfl); (case hg => rfl); (case hr => first | (go_simp; done) | (go_simp; rfl)); intro X hX w1 hx1 hb1; have H1 := Aside0.mk (DuoX.made HH.out (by omega : W.heap.size ≤ X) hb1 hx1); have HB1 := Aside0.mk hb1; have HS1 := Aside0.mk hb1.size; obtain ⟨x0, x1, x2, x3⟩ := cellsO hx1; clear hX hx1 hb1)
      | (go_at_call 33; (with_reducible refine (owned_calls A m c ls _ (Kd.C_below HC.out H1.out.d.below) HML.out.2.1 HML.out.1 HML.out.2.2 HSH.out).mono ?_); rintro e w2 ⟨A', c', rfl, hR, hb⟩; have HR2 := Aside0.mk (Kd.R_bound hR); have HF2 := Aside0.mk (own_out H1.out.d hR); have HCC := Aside0.mk (Kd.R_reads' hR).2.1; have H2 := Aside0.mk (H1.out.hide hb); have HB2 := Aside0.mk hb; clear hR hb; clear x0 x1 x2 x3; obtain ⟨x0, x1, x2, x3⟩ := cellsO H2.out.blk)
      | (go_at_call 10; (with_reducible refine (H2.out.d.send s HF2.out HML.out.1 HCC.out HSH.out HKK.out.1 HKK.out.2).mono ?_); rintro e w3 ⟨rfl, own3, hd, hk, hold, hsz⟩; have H3 := Aside0.mk (H2.out.keep hd hk H2.out.ni); have HK3 := Aside0.mk hk; have HO3 := Aside0.mk hold; have HS3 := Aside0.mk hsz; clear hd hk hold hsz; clear x0 x1 x2 x3; obtain ⟨x0, x1, x2, x3⟩ := cellsO H3.out.blk)
      | (go_at_call 34; (with_reducible refine (H3.out.d.rsend HNN.out s HSS.out (Kd.C_below HC.out H3.out.d.below) HML.out.1 HML.out.2.1 HSH.out HKK.out.1 HKK.out.2).mono ?_); rintro e w4 ⟨rfl, hd, hk, hsz⟩; have H4 := Aside0.mk (H3.out.keep hd hk H3.out.ni); have HK4 := Aside0.mk hk; have HS4 := Aside0.mk hsz; have HR4 := Aside0.mk (own_still H1.out.d H2.out.d.g_.2.2.2 HB2.out HR2.out HO3.out hk (H3.out.d.g_).2.1 (H3.out.d.hid) (fun k h1 h2 => ⟨h1, h2⟩)); clear hd hk hsz; clear x0 x1 x2 x3; obtain ⟨x0, x1, x2, x3⟩ := cellsO H4.out.blk)
      | (go_at_call 35; (with_reducible refine (spoil_calls A' m c' _ (fun k => (w1.heap.size ≤ k ∧ k < w2.heap.size) ∧ ∃ cells, w4.heap[k]? = some (Obj.cells cells 5 (0, 0))) (fun k hk => Nat.lt_of_lt_of_le hk.1.2 (Nat.le_trans HS3.out HS4.out)) (spo_of HR4.out (fun k cells ho _ hcells => ⟨⟨ho.1, ho.2.2.1⟩, cells, hcells⟩) (fun k hk => hk.2) HSH.out) HCC.out (by have := HML.out; omega)).mono ?_); rintro e w5 ⟨rfl, hsp⟩; have H5 := Aside0.mk (H4.out.spoilt hsp (fun k hk => hk.1) (fun k hk => Nat.le_trans H1.out.d.below.size hk.1)); have HSP := Aside0.mk hsp; clear hsp x0 x1 x2 x3))
    go_ret
    refine ⟨rfl, own3, _, H5.out.d, ?_, ?_⟩
    · have k1 := (Keep2.then_ (N := N) (M := M) (g := g) (own := own) HB1.out).trans HS1.out (Keep2.then_ HB2.out)
      have k2 := (k1.trans (Nat.le_trans HS1.out HB2.out.size) HK3.out).trans (Nat.le_trans (Nat.le_trans HS1.out HB2.out.size) HS3.out) HK4.out
      exact fun k ho hg hk => ⟨(HSP.out.block k (Nat.lt_of_lt_of_le hk (Nat.le_trans (Nat.le_trans (Nat.le_trans HS1.out HB2.out.size) HS3.out) HS4.out)) (fun e => by have h1 := e.1.1; have h2 := HS1.out; omega)).trans (k2 k ho hg hk).1, (k2 k ho hg hk).2⟩
    · exact Nat.le_trans (Nat.le_trans (Nat.le_trans (Nat.le_trans HS1.out HB2.out.size) HS3.out) HS4.out) HSP.out.size
  by_cases e1 : xdo = 1
  · subst e1
    clear e0
    obtain ⟨E, hE⟩ : ∃ E, takeE Q s xi = E := ⟨_, rfl⟩
    obtain ⟨Y, hY⟩ : ∃ Y, takeX Q s xi = Y := ⟨_, rfl⟩
    obtain ⟨nn, hnn⟩ : ∃ m : Nat, m = Y.f1.length := ⟨_, rfl⟩
    have HE := Aside0.mk (And.intro hY (And.intro hE hnn))
    have HNS := Aside0.mk (show nn < 140737488355328 by rw [hnn, ← hY]; exact HH.out.short s xi)
    have hsame : sameL Y Y = true := sameL_refl Y
    clear hE hY hnn
    go_enter Try.func21, Try.ntmps21
    go_wp2_with (first
      | ((with_reducible refine gate_dst (N := 5) rfl ?_); refine box_event ?hg (N := 5) ?hd (cs := (opL 1 s A m c xi).toArray) (t := 31) ?hr ?_; (case hd => rfl); (case hg => rfl); (case hr => first | (go_simp; done) | (go_simp; rfl)); intro X hX w1 hx1 hb1; have H1 := Aside0.mk (DuoX.made HH.out (by omega : W.heap.size ≤ X) hb1 hx1); have HB1 := Aside0.mk hb1; have HS1 := Aside0.mk hb1.size; obtain ⟨x0, x1, x2, x3⟩ := cellsO hx1; clear hX hx1 hb1)
      | (go_at_call 11; (with_reducible refine (H1.out.d.take s xi HE.out.1 HE.out.2.1 HE.out.2.2).mono ?_); rintro e w2 ⟨own2, A2, c2, T, rfl, hd, hk, hR, hTb, hTo, hsz⟩; have H2 := Aside0.mk (H1.out.keep hd hk (hTo X H1.out.o (heap_lt H1.out.blk))); have HK2 := Aside0.mk hk; have HR2 := Aside0.mk hR; have HT := Aside0.mk (And.intro hTb hTo); have HS2 := Aside0.mk hsz; clear hd hk hR hTb hTo hsz; clear x0 x1 x2 x3; obtain ⟨x0, x1, x2, x3⟩ := cellsO H2.out.blk)
      | ((with_reducible refine gate_dst (N := 12) rfl ?_); refine box_event ?hg (N := 12) ?hd (cs := (leL 0 none 0 0).toArray) (t := 34) ?hr ?_; (case hd => rfl); (case hg => rfl); (case hr => first | (go_simp; done) | (go_simp; rfl)); intro b12 hX w3 hx1 hb1; have H3 := Aside0.mk (And.intro hx1 (And.intro hb1 (show w2.heap.size ≤ b12 by omega))); clear hX hx1 hb1)
      | ((with_reducible refine gate_ (.store 34 (.tmp 12) (.tmp 60)) rfl ?_); refine store_blk rfl 34 (.tmp 12) (.tmp 60) rfl b12 (leL 0 none 0 0) (leL Y.f0 A2 nn c2) rfl rfl H3.out.1 rfl size34 (leL_one _ _ _ _) ?_; intro w4 ha hka hba; have HB4 := Aside0.mk (hba w2 H3.out.2.2 H3.out.2.1); have H4 := Aside0.mk (H2.out.then_ HB4.out); have HY4 := Aside0.mk (DuoX.made H2.out.d H3.out.2.2 HB4.out ha); clear ha hka hba; clear x0 x1 x2 x3; obtain ⟨x0, x1, x2, x3⟩ := cellsO H4.out.blk)
      | (go_at_call 36; (with_reducible refine (H4.out.d.rtake HNN.out s xi HE.out.1 HE.out.2.1 HE.out.2.2).mono ?_); rintro e w5 ⟨A5, c5, rfl, hc5, hC5, hd, hk, hsz⟩; have H5 := Aside0.mk (H4.out.keep hd hk H4.out.ni); have HY5 := Aside0.mk (HY4.out.keep hd hk HY4.out.ni); have HK5 := Aside0.mk hk; have HC5 := Aside0.mk (And.intro hc5 hC5); have HS5 := Aside0.mk hsz; clear hd hk hsz hc5 hC5 x0 x1 x2 x3)
      | ((with_reducible refine gate_dst (N := 14) rfl ?_); refine box_event ?hg (N := 14) ?hd (cs := (leL 0 none 0 0).toArray) (t := 34) ?hr ?_; (case hd => rfl); (case hg => rfl); (case hr => first | (go_simp; done) | (go_simp; rfl)); intro b14 hX w6 hx1 hb1; have H6 := Aside0.mk (And.intro hx1 (And.intro hb1 (show w5.heap.size ≤ b14 by omega))); clear hX hx1 hb1)
      | ((with_reducible refine gate_ (.store 34 (.tmp 14) (.tmp 69)) rfl ?_); refine store_blk rfl 34 (.tmp 14) (.tmp 69) rfl b14 (leL 0 none 0 0) (leL Y.f0 A5 nn c5) rfl rfl H6.out.1 rfl size34 (leL_one _ _ _ _) ?_; intro w7 ha hka hba; have HB7 := Aside0.mk (hba w5 H6.out.2.2 H6.out.2.1); have H7 := Aside0.mk (H5.out.then_ HB7.out); have HY7 := Aside0.mk (HY5.out.then_ HB7.out); have HR7 := Aside0.mk (byt_still HR2.out HB4.out HK5.out HB7.out H4.out.d.g_.2.1 (H4.out.d.hid)); obtain ⟨y0, y1⟩ := cellsL HY7.out.blk; obtain ⟨z0, z1⟩ := cellsL ha; clear ha hka hba)
      | (go_at_call 14; (with_reducible refine (same_two Y Y _ A2 c2 A5 c5 HE.out.2.2 HE.out.2.2 (byt_row HR7.out HE.out.2.2) (byt_cap HR7.out) (Kd.C_below HC5.out.2 HB7.out) HC5.out.1).mono ?_); rw [hsame]; rintro e w8 ⟨rfl, hb⟩; have HB8 := Aside0.mk hb; have H8 := Aside0.mk (H7.out.then_ hb); have HY8 := Aside0.mk (HY7.out.then_ hb); have HR8 := Aside0.mk (Kd.R_below HR7.out hb); clear hb y0 y1 z0 z1; obtain ⟨y0, y1⟩ := cellsL HY8.out.blk)
      | ((with_reducible refine gate_dst (N := 82) rfl ?_); refine box_ev82 ?hg (N := 82) ?hd (cs := #[.int .i64 0, .slice A2 nn c2]) ?hr ?_; (case hd => rfl); (case hg => rfl); (case hr => first | (go_simp; done) | (go_simp; rfl)); intro b82 w9 hX hx1 hb1; have H9 := Aside0.mk (H8.out.then_ hb1); have HX9 := Aside0.mk (DuoX.made (cs := [.int .i64 0, .slice A2 nn c2]) H8.out.d hX hb1 hx1); have HR9 := Aside0.mk (Kd.R_below HR8.out hb1); have HB9 := Aside0.mk hb1; clear hX hx1 hb1 y0 y1)
      | (go_at_call 35; (refine (spoil_calls (some ⟨b82, 0, none⟩) 1 1 _ (fun k => T k ∧ ∃ cells, w9.heap[k]? = some (Obj.cells cells 5 (0, 0))) (fun k hk => (H9.out.d.hid k hk.1).1) (spo_one HX9.out.blk (byt_cap HR9.out) (Nat.le_of_lt HNS.out) (fun e => HX9.out.ni e.1) (byt_of HR9.out (fun k cells ho _ hcells => ⟨ho, cells, hcells⟩))) (Nat.le_refl _) (by decide)).mono ?_); rintro e w10 ⟨rfl, hsp⟩; have H10 := Aside0.mk (H9.out.spoilt hsp (fun k hk => hk.1) HT.out.1); have HSP := Aside0.mk hsp; clear hsp))
    go_ret
    have z1 := HS1.out
    have z2 := HS2.out
    have z4 := HB4.out.size
    have z5 := HS5.out
    have z7 := HB7.out.size
    have z8 := HB8.out.size
    have z9 := HB9.out.size
    have k1 := (Keep2.then_ (N := N) (M := M) (g := g) (own := own) HB1.out).trans HS1.out HK2.out
    have k2 := k1.trans (by omega) (Keep2.then_ HB4.out)
    have k3 := k2.trans (by omega) HK5.out
    have k4 := ((k3.trans (by omega) (Keep2.then_ HB7.out)).trans (by omega) (Keep2.then_ HB8.out)).trans (by omega) (Keep2.then_ HB9.out)
    refine ⟨rfl, own2, _, H10.out.d, fun k ho hg hk => ⟨(HSP.out.block k (by omega) (fun e => HT.out.2 k ho (by omega) e.1)).trans (k4 k ho hg hk).1, (k4 k ho hg hk).2⟩, ?_⟩
    have z10 := HSP.out.size
    omega
  by_cases e2 : xdo = 2
  · subst e2
    clear e0 e1
    obtain ⟨E, hE⟩ : ∃ E, takeE Q s xi = E := ⟨_, rfl⟩
    have HE := Aside0.mk hE
    clear hE
    go_enter Try.func21, Try.ntmps21
    go_wp2_with (first
      | ((with_reducible refine gate_dst (N := 5) rfl ?_); refine box_event ?hg (N := 5) ?hd (cs := (opL 2 s A m c xi).toArray) (t := 31) ?hr ?_; (case hd => rfl); (case hg => rfl); (case hr => first | (go_simp; done) | (go_simp; rfl)); intro X hX w1 hx1 hb1; have H1 := Aside0.mk (DuoX.made HH.out (by omega : W.heap.size ≤ X) hb1 hx1); have HB1 := Aside0.mk hb1; have HS1 := Aside0.mk hb1.size; obtain ⟨x0, x1, x2, x3⟩ := cellsO hx1; clear hX hx1 hb1))
    clear x0 x1 x2 x3
    refine start_ (n := 14) (S := fun w' => w'.cell? ⟨X, 1, none⟩ = some (.string s) ∧ w'.cell? ⟨X, 3, none⟩ = some (.int .i64 xi)) (ds := []) #[false, false, false, false, false, false, false, false, false, false, false, false, false, false] (by kernel_rfl) rfl rfl ⟨(cellsO (H1.out.then_ (below_drew1 (Below.refl _ _))).blk).2.1, (cellsO (H1.out.then_ (below_drew1 (Below.refl _ _))).blk).2.2.2⟩ (fun hHeld => ?_); refine with_tabW doesA.tab15 doesA.bits15 (fun HT_ HW_ => ?_)
    have H2 := Aside0.mk (H1.out.then_ (below_drew1 (Below.refl _ _)))
    have HB2 := Aside0.mk (below_drew1 HB1.out)
    generalize w1.drew = W0 at *
    refine pure_ (i := 0) (N := some 87) (v := ?_) (a' := ?_) #[true, false, false, false, false, false, false, false, false, false, false, false, false, false] rfl rfl (any_of HT_.out (by kernel_rfl)) (fun _ _ _ h => h) (Or.inl ⟨by rfl, ?_⟩) ?_ ?_
    rotate_left
    · intro w'
      go_simp
      with_reducible rfl
    rotate_left
    · simp only [Act.put, List.setIfInBounds_toArray, List.set_cons_zero, List.set_cons_succ, i64_w, i32_w, xu32_w, xu8_w]
      rfl
    refine pure_ (i := 1) (N := some 88) (v := ?_) (a' := ?_) #[true, true, false, false, false, false, false, false, false, false, false, false, false, false] rfl rfl (any_of HT_.out (by kernel_rfl)) (fun _ _ _ h => h) (Or.inl ⟨by rfl, ?_⟩) ?_ ?_
    rotate_left
    · intro w'
      go_simp
      with_reducible rfl
    rotate_left
    · simp only [Act.put, List.setIfInBounds_toArray, List.set_cons_zero, List.set_cons_succ, i64_w, i32_w, xu32_w, xu8_w]
      rfl
    refine pure_ (i := 3) (N := some 90) (v := ?_) (a' := ?_) #[true, true, false, true, false, false, false, false, false, false, false, false, false, false] rfl rfl (any_of HT_.out (by kernel_rfl)) (fun _ _ _ h => h) (Or.inl ⟨by rfl, ?_⟩) ?_ ?_
    rotate_left
    · intro w'
      go_simp
      with_reducible rfl
    rotate_left
    · simp only [Act.put, List.setIfInBounds_toArray, List.set_cons_zero, List.set_cons_succ, i64_w, i32_w, xu32_w, xu8_w]
      rfl
    refine pure_ (i := 6) (N := some 93) (v := ?_) (a' := ?_) #[true, true, false, true, false, false, true, false, false, false, false, false, false, false] rfl rfl (any_of HT_.out (by kernel_rfl)) (fun _ _ _ h => h) (Or.inl ⟨by rfl, ?_⟩) ?_ ?_
    rotate_left
    · intro w'
      go_simp
      with_reducible rfl
    rotate_left
    · simp only [Act.put, List.setIfInBounds_toArray, List.set_cons_zero, List.set_cons_succ, i64_w, i32_w, xu32_w, xu8_w]
      rfl
    refine pure_ (i := 7) (N := some 94) (v := ?_) (a' := ?_) #[true, true, false, true, false, false, true, true, false, false, false, false, false, false] rfl rfl (any_of HT_.out (by kernel_rfl)) (fun _ _ _ h => h) (Or.inl ⟨by rfl, ?_⟩) ?_ ?_
    rotate_left
    · intro w'
      go_simp
      with_reducible rfl
    rotate_left
    · simp only [Act.put, List.setIfInBounds_toArray, List.set_cons_zero, List.set_cons_succ, i64_w, i32_w, xu32_w, xu8_w]
      rfl
    refine pure_ (i := 9) (N := some 96) (v := ?_) (a' := ?_) #[true, true, false, true, false, false, true, true, false, true, false, false, false, false] rfl rfl (any_of HT_.out (by kernel_rfl)) (fun _ _ _ h => h) (Or.inl ⟨by rfl, ?_⟩) ?_ ?_
    rotate_left
    · intro w'
      go_simp
      with_reducible rfl
    rotate_left
    · simp only [Act.put, List.setIfInBounds_toArray, List.set_cons_zero, List.set_cons_succ, i64_w, i32_w, xu32_w, xu8_w]
      rfl
    refine take_ (i := 2) (N := some 89) (v := ?_) (a' := ?_) #[true, true, true, true, false, false, true, true, false, true, false, false, false, false] rfl rfl (take_ofW HT_.out HW_.out (by kernel_rfl)) (fun _ _ _ h => h) (Or.inl ⟨by rfl, ?_⟩) hHeld ?_ ?_
    rotate_left
    · rintro w' ⟨s0, s1⟩
      go_simp
      with_reducible rfl
    rotate_left
    · simp only [Act.put, List.setIfInBounds_toArray, List.set_cons_zero, List.set_cons_succ, i64_w, i32_w, xu32_w, xu8_w]
      rfl
    refine take_ (i := 4) (N := some 91) (v := ?_) (a' := ?_) #[true, true, true, true, true, false, true, true, false, true, false, false, false, false] rfl rfl (take_ofW HT_.out HW_.out (by kernel_rfl)) (fun _ _ _ h => h) (Or.inl ⟨by rfl, ?_⟩) hHeld ?_ ?_
    rotate_left
    · rintro w' ⟨s0, s1⟩
      go_simp
      with_reducible rfl
    rotate_left
    · simp only [Act.put, List.setIfInBounds_toArray, List.set_cons_zero, List.set_cons_succ, i64_w, i32_w, xu32_w, xu8_w]
      rfl
    refine take_ (i := 8) (N := some 95) (v := ?_) (a' := ?_) #[true, true, true, true, true, false, true, true, true, true, false, false, false, false] rfl rfl (take_ofW HT_.out HW_.out (by kernel_rfl)) (fun _ _ _ h => h) (Or.inl ⟨by rfl, ?_⟩) hHeld ?_ ?_
    rotate_left
    · rintro w' ⟨s0, s1⟩
      go_simp
      with_reducible rfl
    rotate_left
    · simp only [Act.put, List.setIfInBounds_toArray, List.set_cons_zero, List.set_cons_succ, i64_w, i32_w, xu32_w, xu8_w]
      rfl
    refine take_ (i := 10) (N := some 97) (v := ?_) (a' := ?_) #[true, true, true, true, true, false, true, true, true, true, true, false, false, false] rfl rfl (take_ofW HT_.out HW_.out (by kernel_rfl)) (fun _ _ _ h => h) (Or.inl ⟨by rfl, ?_⟩) hHeld ?_ ?_
    rotate_left
    · rintro w' ⟨s0, s1⟩
      go_simp
      with_reducible rfl
    rotate_left
    · simp only [Act.put, List.setIfInBounds_toArray, List.set_cons_zero, List.set_cons_succ, i64_w, i32_w, xu32_w, xu8_w]
      rfl
    refine one_ (i := 5) (N := some 92) #[true, true, true, true, true, true, true, true, true, true, true, false, false, false] rfl rfl (one_of HT_.out (by kernel_rfl)) (by decide) (fun K hK => ?_)
    refine goes_ Try.func12 (by kernel_rfl) rfl #[.pointer (some ⟨N, 0, none⟩), .string s, .int .i64 xi] (by rfl) rfl rfl (by (try simp only [List.map_toArray, List.map_cons, List.map_nil]); first | done | rfl) ?_
    with_reducible refine (H2.out.d.drop s xi HE.out).mono ?_
    rintro e w3 ⟨rfl, own3, hd, hk, hsz⟩
    refine ⟨_, rfl, ?_⟩
    have H3 := Aside0.mk (H2.out.keep hd hk H2.out.ni)
    have HK3 := Aside0.mk hk
    have HS3 := Aside0.mk hsz
    clear hd hk hsz
    refine hK.out _ _ ⟨(cellsO H3.out.blk).2.1, (cellsO H3.out.blk).2.2.2⟩ (fun hHeld => ?_)
    clear hK K
    refine norm_ (a' := ?_) ?_ ?_
    rotate_left
    · show Act.put _ (some 92) _ = _
      simp only [Act.put, List.setIfInBounds_toArray, List.set_cons_zero, List.set_cons_succ, i64_w, i32_w, xu32_w, xu8_w]
      rfl
    refine one_ (i := 11) (N := some 98) #[true, true, true, true, true, true, true, true, true, true, true, true, false, false] rfl rfl (one_of HT_.out (by kernel_rfl)) (by decide) (fun K hK => ?_)
    refine goes_ Try.func37 (by kernel_rfl) rfl #[.pointer (some ⟨g, 0, none⟩), .string s, .int .i64 xi] (by rfl) rfl rfl (by (try simp only [List.map_toArray, List.map_cons, List.map_nil]); first | done | rfl) ?_
    with_reducible refine (H3.out.d.rdrop HNN.out s xi HE.out).mono ?_
    rintro e w4 ⟨rfl, hd, hk, hsz⟩
    refine ⟨_, rfl, ?_⟩
    have H4 := Aside0.mk (H3.out.keep hd hk H3.out.ni)
    have HK4 := Aside0.mk hk
    have HS4 := Aside0.mk hsz
    clear hd hk hsz
    refine hK.out _ _ ⟨(cellsO H4.out.blk).2.1, (cellsO H4.out.blk).2.2.2⟩ (fun hHeld => ?_)
    clear hK K
    refine norm_ (a' := ?_) ?_ ?_
    rotate_left
    · show Act.put _ (some 98) _ = _
      simp only [Act.put, List.setIfInBounds_toArray, List.set_cons_zero, List.set_cons_succ, i64_w, i32_w, xu32_w, xu8_w]
      rfl
    refine pure_ (i := 12) (N := some 99) (v := ?_) (a' := ?_) #[true, true, true, true, true, true, true, true, true, true, true, true, true, false] rfl rfl (any_of HT_.out (by kernel_rfl)) (fun _ _ _ h => h) (Or.inl ⟨by rfl, ?_⟩) ?_ ?_
    rotate_left
    · intro w'
      go_simp
      with_reducible rfl
    rotate_left
    · simp only [Act.put, List.setIfInBounds_toArray, List.set_cons_zero, List.set_cons_succ, i64_w, i32_w, xu32_w, xu8_w]
      rfl
    refine pure_ (i := 13) (N := some 6) (v := ?_) (a' := ?_) #[true, true, true, true, true, true, true, true, true, true, true, true, true, true] rfl rfl (any_of HT_.out (by kernel_rfl)) (fun _ _ _ h => h) (Or.inl ⟨by rfl, ?_⟩) ?_ ?_
    rotate_left
    · intro w'
      go_simp
      with_reducible rfl
    rotate_left
    · simp only [Act.put, List.setIfInBounds_toArray, List.set_cons_zero, List.set_cons_succ, i64_w, i32_w, xu32_w, xu8_w]
      rfl
    refine done_ (done_of HT_.out (by kernel_rfl)) ?_
    try go_wp2
    go_ret
    have z1 := HB2.out.size
    have z3 := HS3.out
    have z4 := HS4.out
    exact ⟨rfl, own3, _, H4.out.d, ((Keep2.then_ (N := N) (M := M) (g := g) (own := own) HB2.out).trans HB2.out.size HK3.out).trans (by omega) HK4.out, by omega⟩
  by_cases e3 : xdo = 3
  · subst e3
    clear e0 e1 e2
    obtain ⟨E, hE⟩ : ∃ E, doubleE room Q s xi = E := ⟨_, rfl⟩
    have HE := Aside0.mk hE
    clear hE
    go_enter Try.func21, Try.ntmps21
    go_wp2_with (first
      | ((with_reducible refine gate_dst (N := 5) rfl ?_); refine box_event ?hg (N := 5) ?hd (cs := (opL 3 s A m c xi).toArray) (t := 31) ?hr ?_; (case hd => rfl); (case hg => rfl); (case hr => first | (go_simp; done) | (go_simp; rfl)); intro X hX w1 hx1 hb1; have H1 := Aside0.mk (DuoX.made HH.out (by omega : W.heap.size ≤ X) hb1 hx1); have HB1 := Aside0.mk hb1; have HS1 := Aside0.mk hb1.size; obtain ⟨x0, x1, x2, x3⟩ := cellsO hx1; clear hX hx1 hb1))
    clear x0 x1 x2 x3
    refine start_ (n := 14) (S := fun w' => w'.cell? ⟨X, 1, none⟩ = some (.string s) ∧ w'.cell? ⟨X, 3, none⟩ = some (.int .i64 xi)) (ds := []) #[false, false, false, false, false, false, false, false, false, false, false, false, false, false] (by kernel_rfl) rfl rfl ⟨(cellsO (H1.out.then_ (below_drew1 (Below.refl _ _))).blk).2.1, (cellsO (H1.out.then_ (below_drew1 (Below.refl _ _))).blk).2.2.2⟩ (fun hHeld => ?_); refine with_tabW doesB.tab17 doesB.bits17 (fun HT_ HW_ => ?_)
    have H2 := Aside0.mk (H1.out.then_ (below_drew1 (Below.refl _ _)))
    have HB2 := Aside0.mk (below_drew1 HB1.out)
    generalize w1.drew = W0 at *
    refine pure_ (i := 0) (N := some 102) (v := ?_) (a' := ?_) #[true, false, false, false, false, false, false, false, false, false, false, false, false, false] rfl rfl (any_of HT_.out (by kernel_rfl)) (fun _ _ _ h => h) (Or.inl ⟨by rfl, ?_⟩) ?_ ?_
    rotate_left
    · intro w'
      go_simp
      with_reducible rfl
    rotate_left
    · simp only [Act.put, List.setIfInBounds_toArray, List.set_cons_zero, List.set_cons_succ, i64_w, i32_w, xu32_w, xu8_w]
      rfl
    refine pure_ (i := 1) (N := some 103) (v := ?_) (a' := ?_) #[true, true, false, false, false, false, false, false, false, false, false, false, false, false] rfl rfl (any_of HT_.out (by kernel_rfl)) (fun _ _ _ h => h) (Or.inl ⟨by rfl, ?_⟩) ?_ ?_
    rotate_left
    · intro w'
      go_simp
      with_reducible rfl
    rotate_left
    · simp only [Act.put, List.setIfInBounds_toArray, List.set_cons_zero, List.set_cons_succ, i64_w, i32_w, xu32_w, xu8_w]
      rfl
    refine pure_ (i := 3) (N := some 105) (v := ?_) (a' := ?_) #[true, true, false, true, false, false, false, false, false, false, false, false, false, false] rfl rfl (any_of HT_.out (by kernel_rfl)) (fun _ _ _ h => h) (Or.inl ⟨by rfl, ?_⟩) ?_ ?_
    rotate_left
    · intro w'
      go_simp
      with_reducible rfl
    rotate_left
    · simp only [Act.put, List.setIfInBounds_toArray, List.set_cons_zero, List.set_cons_succ, i64_w, i32_w, xu32_w, xu8_w]
      rfl
    refine pure_ (i := 6) (N := some 108) (v := ?_) (a' := ?_) #[true, true, false, true, false, false, true, false, false, false, false, false, false, false] rfl rfl (any_of HT_.out (by kernel_rfl)) (fun _ _ _ h => h) (Or.inl ⟨by rfl, ?_⟩) ?_ ?_
    rotate_left
    · intro w'
      go_simp
      with_reducible rfl
    rotate_left
    · simp only [Act.put, List.setIfInBounds_toArray, List.set_cons_zero, List.set_cons_succ, i64_w, i32_w, xu32_w, xu8_w]
      rfl
    refine pure_ (i := 7) (N := some 109) (v := ?_) (a' := ?_) #[true, true, false, true, false, false, true, true, false, false, false, false, false, false] rfl rfl (any_of HT_.out (by kernel_rfl)) (fun _ _ _ h => h) (Or.inl ⟨by rfl, ?_⟩) ?_ ?_
    rotate_left
    · intro w'
      go_simp
      with_reducible rfl
    rotate_left
    · simp only [Act.put, List.setIfInBounds_toArray, List.set_cons_zero, List.set_cons_succ, i64_w, i32_w, xu32_w, xu8_w]
      rfl
    refine pure_ (i := 9) (N := some 111) (v := ?_) (a' := ?_) #[true, true, false, true, false, false, true, true, false, true, false, false, false, false] rfl rfl (any_of HT_.out (by kernel_rfl)) (fun _ _ _ h => h) (Or.inl ⟨by rfl, ?_⟩) ?_ ?_
    rotate_left
    · intro w'
      go_simp
      with_reducible rfl
    rotate_left
    · simp only [Act.put, List.setIfInBounds_toArray, List.set_cons_zero, List.set_cons_succ, i64_w, i32_w, xu32_w, xu8_w]
      rfl
    refine take_ (i := 2) (N := some 104) (v := ?_) (a' := ?_) #[true, true, true, true, false, false, true, true, false, true, false, false, false, false] rfl rfl (take_ofW HT_.out HW_.out (by kernel_rfl)) (fun _ _ _ h => h) (Or.inl ⟨by rfl, ?_⟩) hHeld ?_ ?_
    rotate_left
    · rintro w' ⟨s0, s1⟩
      go_simp
      with_reducible rfl
    rotate_left
    · simp only [Act.put, List.setIfInBounds_toArray, List.set_cons_zero, List.set_cons_succ, i64_w, i32_w, xu32_w, xu8_w]
      rfl
    refine take_ (i := 4) (N := some 106) (v := ?_) (a' := ?_) #[true, true, true, true, true, false, true, true, false, true, false, false, false, false] rfl rfl (take_ofW HT_.out HW_.out (by kernel_rfl)) (fun _ _ _ h => h) (Or.inl ⟨by rfl, ?_⟩) hHeld ?_ ?_
    rotate_left
    · rintro w' ⟨s0, s1⟩
      go_simp
      with_reducible rfl
    rotate_left
    · simp only [Act.put, List.setIfInBounds_toArray, List.set_cons_zero, List.set_cons_succ, i64_w, i32_w, xu32_w, xu8_w]
      rfl
    refine take_ (i := 8) (N := some 110) (v := ?_) (a' := ?_) #[true, true, true, true, true, false, true, true, true, true, false, false, false, false] rfl rfl (take_ofW HT_.out HW_.out (by kernel_rfl)) (fun _ _ _ h => h) (Or.inl ⟨by rfl, ?_⟩) hHeld ?_ ?_
    rotate_left
    · rintro w' ⟨s0, s1⟩
      go_simp
      with_reducible rfl
    rotate_left
    · simp only [Act.put, List.setIfInBounds_toArray, List.set_cons_zero, List.set_cons_succ, i64_w, i32_w, xu32_w, xu8_w]
      rfl
    refine take_ (i := 10) (N := some 112) (v := ?_) (a' := ?_) #[true, true, true, true, true, false, true, true, true, true, true, false, false, false] rfl rfl (take_ofW HT_.out HW_.out (by kernel_rfl)) (fun _ _ _ h => h) (Or.inl ⟨by rfl, ?_⟩) hHeld ?_ ?_
    rotate_left
    · rintro w' ⟨s0, s1⟩
      go_simp
      with_reducible rfl
    rotate_left
    · simp only [Act.put, List.setIfInBounds_toArray, List.set_cons_zero, List.set_cons_succ, i64_w, i32_w, xu32_w, xu8_w]
      rfl
    refine one_ (i := 5) (N := some 107) #[true, true, true, true, true, true, true, true, true, true, true, false, false, false] rfl rfl (one_of HT_.out (by kernel_rfl)) (by decide) (fun K hK => ?_)
    refine goes_ Try.func13 (by kernel_rfl) rfl #[.pointer (some ⟨N, 0, none⟩), .string s, .int .i64 xi] (by rfl) rfl rfl (by (try simp only [List.map_toArray, List.map_cons, List.map_nil]); first | done | rfl) ?_
    with_reducible refine (H2.out.d.double s xi HE.out).mono ?_
    rintro e w3 ⟨rfl, own3, hd, hk, hsz⟩
    refine ⟨_, rfl, ?_⟩
    have H3 := Aside0.mk (H2.out.keep hd hk H2.out.ni)
    have HK3 := Aside0.mk hk
    have HS3 := Aside0.mk hsz
    clear hd hk hsz
    refine hK.out _ _ ⟨(cellsO H3.out.blk).2.1, (cellsO H3.out.blk).2.2.2⟩ (fun hHeld => ?_)
    clear hK K
    refine norm_ (a' := ?_) ?_ ?_
    rotate_left
    · show Act.put _ (some 107) _ = _
      simp only [Act.put, List.setIfInBounds_toArray, List.set_cons_zero, List.set_cons_succ, i64_w, i32_w, xu32_w, xu8_w]
      rfl
    refine one_ (i := 11) (N := some 113) #[true, true, true, true, true, true, true, true, true, true, true, true, false, false] rfl rfl (one_of HT_.out (by kernel_rfl)) (by decide) (fun K hK => ?_)
    refine goes_ Try.func38 (by kernel_rfl) rfl #[.pointer (some ⟨g, 0, none⟩), .string s, .int .i64 xi] (by rfl) rfl rfl (by (try simp only [List.map_toArray, List.map_cons, List.map_nil]); first | done | rfl) ?_
    with_reducible refine (H3.out.d.rdouble HNN.out s xi HE.out).mono ?_
    rintro e w4 ⟨rfl, hd, hk, hsz⟩
    refine ⟨_, rfl, ?_⟩
    have H4 := Aside0.mk (H3.out.keep hd hk H3.out.ni)
    have HK4 := Aside0.mk hk
    have HS4 := Aside0.mk hsz
    clear hd hk hsz
    refine hK.out _ _ ⟨(cellsO H4.out.blk).2.1, (cellsO H4.out.blk).2.2.2⟩ (fun hHeld => ?_)
    clear hK K
    refine norm_ (a' := ?_) ?_ ?_
    rotate_left
    · show Act.put _ (some 113) _ = _
      simp only [Act.put, List.setIfInBounds_toArray, List.set_cons_zero, List.set_cons_succ, i64_w, i32_w, xu32_w, xu8_w]
      rfl
    refine pure_ (i := 12) (N := some 114) (v := ?_) (a' := ?_) #[true, true, true, true, true, true, true, true, true, true, true, true, true, false] rfl rfl (any_of HT_.out (by kernel_rfl)) (fun _ _ _ h => h) (Or.inl ⟨by rfl, ?_⟩) ?_ ?_
    rotate_left
    · intro w'
      go_simp
      with_reducible rfl
    rotate_left
    · simp only [Act.put, List.setIfInBounds_toArray, List.set_cons_zero, List.set_cons_succ, i64_w, i32_w, xu32_w, xu8_w]
      rfl
    refine pure_ (i := 13) (N := some 6) (v := ?_) (a' := ?_) #[true, true, true, true, true, true, true, true, true, true, true, true, true, true] rfl rfl (any_of HT_.out (by kernel_rfl)) (fun _ _ _ h => h) (Or.inl ⟨by rfl, ?_⟩) ?_ ?_
    rotate_left
    · intro w'
      go_simp
      with_reducible rfl
    rotate_left
    · simp only [Act.put, List.setIfInBounds_toArray, List.set_cons_zero, List.set_cons_succ, i64_w, i32_w, xu32_w, xu8_w]
      rfl
    refine done_ (done_of HT_.out (by kernel_rfl)) ?_
    try go_wp2
    go_ret
    have z1 := HB2.out.size
    have z3 := HS3.out
    have z4 := HS4.out
    exact ⟨rfl, own3, _, H4.out.d, ((Keep2.then_ (N := N) (M := M) (g := g) (own := own) HB2.out).trans HB2.out.size HK3.out).trans (by omega) HK4.out, by omega⟩
  have f0 : (xdo == 0) = false := by simpa using e0
  have f1 : (xdo == 1) = false := by simpa using e1
  have f2 : (xdo == 2) = false := by simpa using e2
  have f3 : (xdo == 3) = false := by simpa using e3
  clear e0 e1 e2 e3
  go_enter Try.func21, Try.ntmps21
  go_wp2_with (first
    | ((with_reducible refine gate_dst (N := 5) rfl ?_); refine box_event ?hg (N := 5) ?hd (cs := (opL xdo s A m c xi).toArray) (t := 31) ?hr ?_; (case hd => rfl); (case hg => rfl); (case hr => first | (go_simp; done) | (go_simp; rfl)); intro X hX w1 hx1 hb1; have H1 := Aside0.mk (DuoX.made HH.out (by omega : W.heap.size ≤ X) hb1 hx1); have HB1 := Aside0.mk hb1; have HS1 := Aside0.mk hb1.size; obtain ⟨x0, x1, x2, x3⟩ := cellsO hx1; clear hX hx1 hb1))
  go_ret
  exact ⟨rfl, own, Q, H1.out.d.more (Nat.le_succ n), Keep2.then_ HB1.out, HS1.out⟩
end
end Go.Proofs.Ytlnipfmgdkiboaa.N
/- NetDoes by hand: sameOf. -/
namespace Go.Proofs.Ytlnipfmgdkiboaa.N
open Go.RowKit Go.Proofs.Ytlnipfmgdkiboaa.Q Go.Proofs.YtlnipfmgdkiboaaW.PrintWords Go.Proofs.YtlnipfmgdkiboaaW.PrintLast Go.Proofs.YtlnipfmgdkiboaaW.PrintMore
set_option linter.unusedVariables false
set_option linter.unusedSimpArgs false
attribute [local go_sem] min2_int min_two
def sameof.T9 : Bool × List (List Nat × List Nat) := (true, [([], []), ([], []), ([0, 1], [0, 1]), ([2], [2]), ([], []), ([], []), ([4, 5], [4, 5]), ([6], [6]), ([3, 7], [3, 7]), ([8], [8])])
def sameof.B9 : List Nat := [0, 0, 3, 7, 0, 0, 48, 112, 255, 511]
theorem sameof.tab9 : rtab .any (opsOf Try.f23 9) = sameof.T9 := by kernel_rfl
theorem sameof.bits9 : waitsOk sameof.T9.2 sameof.B9 = true := by kernel_rfl
section
variable {w W : World} {N M g : Nat} {room : Int} {own : Nat → Option ByteArray} {Qn Q : ByteArray → List S34} {n : Nat} {I : Nat → Prop}
theorem Duo.all (h : Duo w W N M room own g Qn Q n I) (s : ByteArray) : Calls Try.prog 17 #[.pointer (some ⟨N, 0, none⟩), .string s] W fun e W' => ∃ Bs v, e = .returned (.func (.func 30) #[] #[.pointer (some ⟨Bs, 0, none⟩)]) ∧ W'.heap[Bs]? = some (.cells #[v] 29 (0, 0)) ∧ k34.R 34 W' W.heap.size (fun k => W.heap.size ≤ k) v (Qn s) ∧ Below W.heap.size W W' := by
  obtain ⟨G, hN⟩ := h.net
  exact (all_calls hN s).mono fun e W' ⟨Bs, v, he, hx, hge, hR, hb⟩ => ⟨Bs, v, he, hx, hR, hb⟩
theorem told_most {W0 : World} {Bs : Nat} {v : Value} {ls : List S34} (hx : W.heap[Bs]? = some (.cells #[v] 29 (0, 0))) (hR : k34.R 34 W W0.heap.size (fun k => W0.heap.size ≤ k) v ls) (hb0 : W0.heap.size ≤ W.heap.size) (hl : ls.length ≤ 1000) (most : Int) (h0 : 0 ≤ most) (h1 : most ≤ 1048576) {m : Nat} (hm : m = (ls.take most.toNat).length) :
    Calls Try.prog 16 #[.func (.func 30) #[] #[.pointer (some ⟨Bs, 0, none⟩)], .int .i64 most] W fun e W' => ∃ A c, e = .returned (.tuple #[.slice A m c, .bool true]) ∧ m ≤ c ∧ k34.R 34 W' W0.heap.size (fun k => W0.heap.size ≤ k) (.slice A m c) (ls.take most.toNat) ∧ Below W.heap.size W W' := by
  subst hm
  refine (callsIn_wide.1 (told_in hx hR hl hb0 most h0 h1)).mono fun e W' ⟨v', he, hR', hB⟩ => ?_
  obtain ⟨A, c, rfl, hc, _⟩ := Kd.R_reads hR'
  exact ⟨A, c, he, hc, Kd.R_mono hR' (fun k hk => hk.elim id (fun e => Nat.le_trans hb0 e)), hB⟩
theorem Duo.rof (h : Duo w W N M room own g Qn Q n I) (hn : n ≤ 1000) (s : ByteArray) {m : Nat} (hm : m = (Q s).length) :
    Calls Try.prog 39 #[.pointer (some ⟨g, 0, none⟩), .string s] W fun e W' => ∃ A c, e = .returned (.slice A m c) ∧ m ≤ c ∧ Kd.C k34 W' A m (Q s) ∧ Below W.heap.size W W' := by
  obtain ⟨v, st, hG, hR, hst⟩ := h.ref.ex
  have hs := hR.of s
  refine (rof_calls hG (by omega) s (by rw [← hs]; exact hm)).mono fun e W' ⟨A, c, he, hc, hF, hb⟩ => ⟨A, c, he, hc, ?_, hb⟩
  rw [hs]
  exact Kd.F_now hF
theorem Duo.len (h : Duo w W N M room own g Qn Q n I) (s : ByteArray) {m : Nat} (hm : m = (Qn s).length) : Calls Try.prog 15 #[.pointer (some ⟨N, 0, none⟩), .string s] W fun e W' => e = .returned (.int .i64 m) ∧ W' = W := by
  obtain ⟨G, hN⟩ := h.net
  rw [hm]
  exact len_calls hN s
theorem Duo.fits (h : Duo w W N M room own g Qn Q n I) (s : ByteArray) : (Qn s).length ≤ 256 ∧ ∀ x ∈ Qn s, x.f1.length < 140737488355328 := by
  obtain ⟨G, hN⟩ := h.net
  have h1 := hN.few s
  have h2 := hN.room2
  exact ⟨by omega, fun x hx => hN.short s x hx⟩
theorem letter_c {A : Option Addr} {m : Nat} {xs : List S34} (h : Kd.C k34 W A m xs) {j : Nat} (hj : j < m) {x : S34} (hx : xs.getD j z34 = x) {nx : Nat} (hnx : nx = x.f1.length) : ∃ ad A1 c1, A = some ad ∧ W.cell? (ad.add (j * 2)) = some (.int .i64 x.f0) ∧ W.cell? ⟨(ad.add (j * 2)).block, (ad.add (j * 2)).off + 1, none⟩ = some (.slice A1 nx c1) ∧ nx ≤ c1 ∧ (Kd.int .u8).C W A1 nx x.f1 := by
  subst hnx
  obtain ⟨ad, A1, c1, e, x0, x1, hl, hC⟩ := at_T34 h (j : Int) (by omega) (by omega)
  have hr : rd_T34 xs (j : Int) = x := by unfold rd_T34; rw [Int.toNat_natCast]; exact hx
  rw [hr, Int.toNat_natCast] at x0 x1
  rw [hr] at hl hC
  exact ⟨ad, A1, c1, e, x0, x1, hl, hC⟩
theorem byt_rowL {base : Nat} {ok : Nat → Prop} {A : Option Addr} {m c : Nat} {xs : List S34} (h : k34.R 34 W base ok (.slice A m c) xs) (hm : m = xs.length) : Kd.C k34 W A m xs := by
  rw [hm]; exact (Kd.R_reads' h).2.2
/-- What was told is where it was made. -/
theorem told_old {w2 w5 w9 : World} {a : Nat} {v : Value} {xs : List S34} (h : k34.R 34 w2 a (fun k => a ≤ k) v xs) (h1 : Below w2.heap.size w2 w5) (h2 : Below w5.heap.size w5 w9) : k34.R 34 w9 a (fun k => a ≤ k ∧ k < w2.heap.size) v xs :=
  Kd.R_below (Kd.R_below (Kd.R_mono (Kd.R_bound h) (fun k hk => ⟨hk.1, hk.2.2.1⟩)) h1) h2
set_option maxHeartbeats 4000000 in
set_option maxRecDepth 100000 in
theorem sameof_calls (h : Duo w W N M room own g Q Q n (fun _ => False)) (hn : n ≤ 1000) (s : ByteArray) :
    Calls Try.prog 23 #[.pointer (some ⟨N, 0, none⟩), .pointer (some ⟨g, 0, none⟩), .string s] W fun e W' => e = .returned (.bool true) ∧ Duo w W' N M room own g Q Q n (fun _ => False) ∧ Keep2 W N M g own W' own ∧ W.heap.size ≤ W'.heap.size := by
  have HH := Aside0.mk h
  have HNN := Aside0.mk hn
  obtain ⟨m0, hm0⟩ : ∃ m : Nat, m = (Q s).length := ⟨_, rfl⟩
  have HFI := Aside0.mk (h.fits s)
  have HM := Aside0.mk (show m0 = ((Q s).take (1048576 : Int).toNat).length by rw [List.length_take, hm0]; have h1 := (h.fits s).1; omega)
  have HTK := Aside0.mk (show (Q s).take (1048576 : Int).toNat = Q s from List.take_of_length_le (by have h1 := (h.fits s).1; omega))
  obtain ⟨m1, hm1⟩ : ∃ m : Nat, m = ((Q s).take (1 : Int).toNat).length := ⟨_, rfl⟩
  have HM1 := Aside0.mk hm1
  have hm1' : m1 = min 1 m0 := by rw [hm1, List.length_take, hm0]; rfl
  have hmin : (if (m0 : Int) < 1 then (m0 : Int) else 1) = (m1 : Int) := by split <;> omega
  have HM0 := Aside0.mk (And.intro hm0 (show m0 ≤ 256 by have h1 := (h.fits s).1; omega))
  clear h hn hm0 hm1 hm1'
  go_enter Try.func23, Try.ntmps23
  go_wp2_with (first
    | (go_at_call 17; first
        | ((with_reducible refine (HH.out.all s).mono ?_); rintro e w1 ⟨Bs, v, rfl, hx, hR, hb⟩; have H1 := Aside0.mk (HH.out.then_ hb); have HB1 := Aside0.mk hb; have HA1 := Aside0.mk (And.intro hx hR); clear hx hR hb)
        | ((with_reducible refine (H2.out.all s).mono ?_); rintro e w3 ⟨Bs3, v3, rfl, hx, hR, hb⟩; have H3 := Aside0.mk (H2.out.then_ hb); have HB3 := Aside0.mk hb; have HA3 := Aside0.mk (And.intro hx hR); clear hx hR hb))
    | (go_at_call 16; first
        | ((with_reducible refine (told_most HA1.out.1 HA1.out.2 HB1.out.size (by have := HFI.out.1; omega) 1048576 (by decide) (by decide) HM.out).mono ?_); rw [HTK.out]; rintro e w2 ⟨Al, cl, rfl, hc, hR, hb⟩; have HB2 := Aside0.mk (HB1.out.trans (hb.mono HB1.out.size)); have H2 := Aside0.mk (HH.out.hide HB2.out); have HR2 := Aside0.mk hR; have HCL := Aside0.mk hc; clear hc hR hb)
        | ((with_reducible refine (told_most HA3.out.1 HA3.out.2 HB3.out.size (by have := HFI.out.1; omega) 1 (by decide) (by decide) HM1.out).mono ?_); rintro e w4 ⟨Af, cf, rfl, hc, hR, hb⟩; have H4 := Aside0.mk (H3.out.then_ hb); have HB4 := Aside0.mk (HB3.out.trans (hb.mono HB3.out.size)); clear hc hR hb))
    | (go_at_call 39; (with_reducible refine (H4.out.rof HNN.out s HM0.out.1).mono ?_); rintro e w5 ⟨Aw, cw, rfl, hc, hC, hb⟩; have H5 := Aside0.mk (H4.out.then_ hb); have HB5 := Aside0.mk (HB4.out.trans (hb.mono HB4.out.size)); have HC5 := Aside0.mk hC; clear hc hC hb)
    | (go_at_call 15; (with_reducible refine (H5.out.len s HM0.out.1).mono ?_); rintro e w9 ⟨rfl, h9⟩; subst w9))
  have HR5 := Aside0.mk (Kd.R_below HR2.out HB5.out)
  go_loopg [57] (m0 + 1) (fun kq v57 wr => ∃ i : Nat, v57 = .int .i64 i ∧ Aside0 (kq + i = m0 + 1 ∧ i ≤ m0) ∧ Aside0 (Below w5.heap.size w5 wr))
  case atStart => exact ⟨0, rfl, ⟨by omega⟩, ⟨Below.refl _ _⟩⟩
  case round =>
    obtain ⟨i, rfl, HI, HBR⟩ := hrel
    cases gk with
    | zero => have := HI.out; omega
    | succ k1 =>
    by_cases hi : i < m0
    · have hi0 : (0 : Int) ≤ (i : Int) := by omega
      have hi1 : (i : Int) < (m0 : Int) := by omega
      have hi2 : (i : Int) + 1 ≤ 9223372036854775807 := by have := HM0.out; omega
      obtain ⟨x, hx⟩ : ∃ x, (Q s).getD i z34 = x := ⟨_, rfl⟩
      obtain ⟨nx, hnx⟩ : ∃ m : Nat, m = x.f1.length := ⟨_, rfl⟩
      obtain ⟨ad, A1, c1, hA, x0, x1, hl1, hC1⟩ := letter_c (byt_rowL (Kd.R_below HR5.out HBR.out) HM0.out.1) hi hx hnx
      obtain ⟨ae, A2, c2, hA2, y0, y1, hl2, hC2⟩ := letter_c (Kd.C_below HC5.out HBR.out) hi hx hnx
      subst hA
      subst hA2
      have HX := Aside0.mk (And.intro hnx (And.intro hl1 (And.intro hl2 (And.intro hC1 hC2))))
      have HY := Aside0.mk (And.intro (And.intro x0 x1) (And.intro y0 y1))
      have hsame : sameL x x = true := sameL_refl x
      clear hi hx hnx hl1 hC1 hl2 hC2 x0 x1 y0 y1
      go_wp2_with (fail)
      refine start_ (n := 10) (S := fun w' => w'.cell? (ad.add (i * 2)) = some (.int .i64 x.f0) ∧ w'.cell? ⟨(ad.add (i * 2)).block, (ad.add (i * 2)).off + 1, none⟩ = some (.slice A1 nx c1) ∧ w'.cell? (ae.add (i * 2)) = some (.int .i64 x.f0) ∧ w'.cell? ⟨(ae.add (i * 2)).block, (ae.add (i * 2)).off + 1, none⟩ = some (.slice A2 nx c2)) (ds := []) #[false, false, false, false, false, false, false, false, false, false] (by kernel_rfl) rfl rfl ⟨pw_cell_below (below_drew1 (Below.refl wr.heap.size wr)) HY.out.1.1, pw_cell_below (below_drew1 (Below.refl wr.heap.size wr)) HY.out.1.2, pw_cell_below (below_drew1 (Below.refl wr.heap.size wr)) HY.out.2.1, pw_cell_below (below_drew1 (Below.refl wr.heap.size wr)) HY.out.2.2⟩ (fun hHeld => ?_); refine with_tabW sameof.tab9 sameof.bits9 (fun HT_ HW_ => ?_)
      have HBd := Aside0.mk (below_drew1 (Below.refl wr.heap.size wr))
      generalize wr.drew = W0 at *
      refine pure_ (i := 0) (N := some 60) (v := ?_) (a' := ?_) #[true, false, false, false, false, false, false, false, false, false] rfl rfl (any_of HT_.out (by kernel_rfl)) (fun _ _ _ h => h) (Or.inl ⟨by rfl, ?_⟩) ?_ ?_
      rotate_left
      · intro w'
        go_simp
        with_reducible rfl
      rotate_left
      · simp only [Act.put, List.setIfInBounds_toArray, List.set_cons_zero, List.set_cons_succ, i64_w, i32_w, xu32_w, xu8_w]
        rfl
      refine pure_ (i := 1) (N := some 61) (v := ?_) (a' := ?_) #[true, true, false, false, false, false, false, false, false, false] rfl rfl (any_of HT_.out (by kernel_rfl)) (fun _ _ _ h => h) (Or.inl ⟨by rfl, ?_⟩) ?_ ?_
      rotate_left
      · intro w'
        go_simp
        with_reducible rfl
      rotate_left
      · simp only [Act.put, List.setIfInBounds_toArray, List.set_cons_zero, List.set_cons_succ, i64_w, i32_w, xu32_w, xu8_w]
        rfl
      refine pure_ (i := 2) (N := some 62) (v := ?_) (a' := ?_) #[true, true, true, false, false, false, false, false, false, false] rfl rfl (any_of HT_.out (by kernel_rfl)) (fun _ _ _ h => h) (Or.inl ⟨by rfl, ?_⟩) ?_ ?_
      rotate_left
      · intro w'
        go_simp
        with_reducible rfl
      rotate_left
      · simp only [Act.put, List.setIfInBounds_toArray, List.set_cons_zero, List.set_cons_succ, i64_w, i32_w, xu32_w, xu8_w]
        rfl
      refine pure_ (i := 4) (N := some 64) (v := ?_) (a' := ?_) #[true, true, true, false, true, false, false, false, false, false] rfl rfl (any_of HT_.out (by kernel_rfl)) (fun _ _ _ h => h) (Or.inl ⟨by rfl, ?_⟩) ?_ ?_
      rotate_left
      · intro w'
        go_simp
        with_reducible rfl
      rotate_left
      · simp only [Act.put, List.setIfInBounds_toArray, List.set_cons_zero, List.set_cons_succ, i64_w, i32_w, xu32_w, xu8_w]
        rfl
      refine pure_ (i := 5) (N := some 65) (v := ?_) (a' := ?_) #[true, true, true, false, true, true, false, false, false, false] rfl rfl (any_of HT_.out (by kernel_rfl)) (fun _ _ _ h => h) (Or.inl ⟨by rfl, ?_⟩) ?_ ?_
      rotate_left
      · intro w'
        go_simp
        with_reducible rfl
      rotate_left
      · simp only [Act.put, List.setIfInBounds_toArray, List.set_cons_zero, List.set_cons_succ, i64_w, i32_w, xu32_w, xu8_w]
        rfl
      refine pure_ (i := 6) (N := some 66) (v := ?_) (a' := ?_) #[true, true, true, false, true, true, true, false, false, false] rfl rfl (any_of HT_.out (by kernel_rfl)) (fun _ _ _ h => h) (Or.inl ⟨by rfl, ?_⟩) ?_ ?_
      rotate_left
      · intro w'
        go_simp
        with_reducible rfl
      rotate_left
      · simp only [Act.put, List.setIfInBounds_toArray, List.set_cons_zero, List.set_cons_succ, i64_w, i32_w, xu32_w, xu8_w]
        rfl
      refine take_ (i := 3) (N := some 63) (v := ?_) (a' := ?_) #[true, true, true, true, true, true, true, false, false, false] rfl rfl (take_ofW HT_.out HW_.out (by kernel_rfl)) (fun _ _ _ h => h) (Or.inl ⟨by rfl, ?_⟩) hHeld ?_ ?_
      rotate_left
      · rintro w' ⟨s0, s1, s2, s3⟩
        go_simp
        with_reducible rfl
      rotate_left
      · simp only [Act.put, List.setIfInBounds_toArray, List.set_cons_zero, List.set_cons_succ, i64_w, i32_w, xu32_w, xu8_w]
        rfl
      refine take_ (i := 7) (N := some 67) (v := ?_) (a' := ?_) #[true, true, true, true, true, true, true, true, false, false] rfl rfl (take_ofW HT_.out HW_.out (by kernel_rfl)) (fun _ _ _ h => h) (Or.inl ⟨by rfl, ?_⟩) hHeld ?_ ?_
      rotate_left
      · rintro w' ⟨s0, s1, s2, s3⟩
        go_simp
        with_reducible rfl
      rotate_left
      · simp only [Act.put, List.setIfInBounds_toArray, List.set_cons_zero, List.set_cons_succ, i64_w, i32_w, xu32_w, xu8_w]
        rfl
      refine one_ (i := 8) (N := some 68) #[true, true, true, true, true, true, true, true, true, false] rfl rfl (one_of HT_.out (by kernel_rfl)) (by decide) (fun K hK => ?_)
      refine goes_ Try.func14 (by kernel_rfl) rfl #[.agg #[.int .i64 x.f0, .slice A1 nx c1], .agg #[.int .i64 x.f0, .slice A2 nx c2]] (by rfl) rfl rfl (by (try simp only [List.map_toArray, List.map_cons, List.map_nil]); first | done | rfl) ?_
      with_reducible refine (same_two x x _ A1 c1 A2 c2 HX.out.1 HX.out.1 (Kd.C_below HX.out.2.2.2.1 HBd.out) HX.out.2.1 (Kd.C_below HX.out.2.2.2.2 HBd.out) HX.out.2.2.1).mono ?_
      rw [hsame]
      rintro e w8 ⟨rfl, hb⟩
      refine ⟨_, rfl, ?_⟩
      have HB8 := Aside0.mk (HBd.out.trans (hb.mono HBd.out.size))
      clear hb
      refine hK.out _ _ ⟨pw_cell_below HB8.out HY.out.1.1, pw_cell_below HB8.out HY.out.1.2, pw_cell_below HB8.out HY.out.2.1, pw_cell_below HB8.out HY.out.2.2⟩ (fun hHeld => ?_)
      clear hK K
      refine norm_ (a' := ?_) ?_ ?_
      rotate_left
      · show Act.put _ (some 68) _ = _
        simp only [Act.put, List.setIfInBounds_toArray, List.set_cons_zero, List.set_cons_succ, i64_w, i32_w, xu32_w, xu8_w]
        rfl
      refine pure_ (i := 9) (N := some 69) (v := ?_) (a' := ?_) #[true, true, true, true, true, true, true, true, true, true] rfl rfl (any_of HT_.out (by kernel_rfl)) (fun _ _ _ h => h) (Or.inl ⟨by rfl, ?_⟩) ?_ ?_
      rotate_left
      · intro w'
        go_simp
        with_reducible rfl
      rotate_left
      · simp only [Act.put, List.setIfInBounds_toArray, List.set_cons_zero, List.set_cons_succ, i64_w, i32_w, xu32_w, xu8_w]
        rfl
      refine done_ (done_of HT_.out (by kernel_rfl)) ?_
      try go_wp2
      go_roundg k1
      case measure => omega
      case rel => exact ⟨i + 1, by first | rfl | (simp; done) | (rw [wrap64_self (n := (i : Int) + 1) (by omega) (by omega)]; first | rfl | (simp; done)), ⟨by have := HI.out; omega⟩, ⟨HBR.out.trans (HB8.out.mono HBR.out.size)⟩⟩
    · have hi1 : ¬ (i : Int) < (m0 : Int) := by omega
      have HRr := Aside0.mk (Kd.R_bound (Kd.R_below HR5.out HBR.out))
      have H6 := Aside0.mk (H5.out.then_ HBR.out)
      have HB6 := Aside0.mk (HB2.out.trans ((HB5.out.trans (HBR.out.mono HB5.out.size)).mono HB2.out.size))
      have hw2 := HB5.out.size
      have hwr := HBR.out.size
      clear hi
      go_wp2_with (go_at_call 35; (refine (spoil_calls Al m0 cl _ (fun k => (W.heap.size ≤ k ∧ k < w2.heap.size) ∧ ∃ cells, wr.heap[k]? = some (Obj.cells cells 5 (0, 0))) (fun k hk => by have := hk.1.2; omega) (spo_of (told_old HR2.out HB5.out HBR.out) (fun k cells ho _ hcells => ⟨ho, cells, hcells⟩) (fun k hk => hk.2) HFI.out.2) HCL.out (by have := HM0.out.2; omega)).mono ?_); rintro e w10 ⟨rfl, hsp⟩; have H10 := Aside0.mk (H6.out.spoilt hsp (fun k hk => hk.1) (fun k hk => Nat.le_trans HH.out.below.size hk.1)); have HSP := Aside0.mk hsp; clear hsp)
      go_ret
      refine ⟨rfl, H10.out, fun k ho _ hk => ⟨(HSP.out.block k (Nat.lt_of_lt_of_le hk HB6.out.size) (fun e => by have := e.1.1; omega)).trans (HB6.out.block k hk), ho⟩, Nat.le_trans HB6.out.size HSP.out.size⟩
end
end Go.Proofs.Ytlnipfmgdkiboaa.N
/- NetDoes by hand: same. -/
namespace Go.Proofs.Ytlnipfmgdkiboaa.N
open Go.RowKit Go.Proofs.Ytlnipfmgdkiboaa.Q Go.Proofs.YtlnipfmgdkiboaaW.PrintWords Go.Proofs.YtlnipfmgdkiboaaW.PrintLast Go.Proofs.YtlnipfmgdkiboaaW.PrintMore
set_option linter.unusedVariables false
set_option linter.unusedSimpArgs false
def sameA.T2 : Bool × List (List Nat × List Nat) := (true, [([], []), ([0], [0]), ([], []), ([2], [2]), ([3], [3]), ([4], [4]), ([5], [5]), ([1, 6], [1, 6]), ([7], [7]), ([8], [8]), ([9, 8, 8], [8, 9]), ([8], [8]), ([11, 8], [8, 11]), ([12, 8], [8, 12]), ([13, 8], [8, 13]), ([10, 14, 8], [8, 10, 14]), ([8, 15], [8, 15])])
def sameA.B2 : List Nat := [0, 1, 0, 4, 12, 28, 60, 127, 255, 511, 1023, 511, 2559, 6655, 14847, 32767, 65535]
theorem sameA.tab2 : rtab .any (opsOf Try.f22 2) = sameA.T2 := by kernel_rfl
theorem sameA.bits2 : waitsOk sameA.T2.2 sameA.B2 = true := by kernel_rfl
def sameB.T7 : Bool × List (List Nat × List Nat) := (true, [([], []), ([], []), ([0, 1], [0, 1]), ([2], [2]), ([], []), ([4], [4]), ([3, 5], [3, 5]), ([6], [6]), ([7], [7]), ([7], [7]), ([7], [7]), ([10, 7], [7, 10]), ([8, 9, 11, 7, 7], [7, 8, 9, 11]), ([12, 7], [7, 12]), ([7, 13], [7, 13])])
def sameB.B7 : List Nat := [0, 0, 3, 7, 0, 16, 63, 127, 255, 255, 255, 1279, 4095, 8191, 16383]
theorem sameB.tab7 : rtab .any (opsOf Try.f22 7) = sameB.T7 := by kernel_rfl
theorem sameB.bits7 : waitsOk sameB.T7.2 sameB.B7 = true := by kernel_rfl
section
variable {w W : World} {N M g : Nat} {room : Int} {own : Nat → Option ByteArray} {Qn Q : ByteArray → List S34} {n : Nat} {I : Nat → Prop}
theorem name_cell {ok : Nat → Prop} {A : Option Addr} {m : Nat} {xs : List ByteArray} (h : Kd.F Kd.string W ok A m xs) (i : Nat) (h1 : i < m) : ∃ ad, A = some ad ∧ W.cell? (ad.add i) = some (.string (xs.getD i ⟨#[]⟩)) := by
  obtain ⟨ad, c, e, _, hK, hc0⟩ := Kd.C_get (Kd.F_now h) ⟨#[]⟩ (i : Int) (by omega) (by omega)
  have hc : ∀ j u, c[j]? = some u → W.cell? (ad.add ((i : Int).toNat * 1 + j)) = some u := hc0
  have hk : c = [.string (xs.getD i ⟨#[]⟩)] := hK
  subst hk
  refine ⟨ad, e, ?_⟩
  have hq := hc 0 _ rfl
  rwa [Nat.mul_one, Nat.add_zero, Int.toNat_natCast] at hq
theorem name_in {ok : Nat → Prop} {ad : Addr} {m : Nat} {xs : List ByteArray} (h : Kd.F Kd.string W ok (some ad) m xs) (i : Nat) (h1 : i < m) : ok (ad.add i).block := by
  obtain ⟨ad2, c2, e, _, _, _, hin⟩ := Kd.F_get h ⟨#[]⟩ (i : Int) (by omega) (by omega)
  injection e with e
  subst e
  have e : (ad.add i).block = ad.block := by unfold Addr.add; split <;> rfl
  rw [e]
  exact hin (by decide)
theorem Duo.tenants (h : Duo w W N M room own g Q Q n (fun _ => False)) {st : St} (hr : Rep Q st) (hf : st.length ≤ 1000) {m : Nat} (hm : m = st.length) : Calls Try.prog 19 #[.pointer (some ⟨N, 0, none⟩)] W fun e W' => ∃ A c, e = .returned (.slice A m c) ∧ Kd.F Kd.string W' (fun k => Out own N M k ∧ k ≠ g) A m (st.map (·.f0)) ∧ Below W.heap.size W W' := by
  subst hm
  obtain ⟨G, hN⟩ := h.net
  refine (tenants_calls hN hr hf).mono fun e W' ⟨v, he, hR, hb⟩ => ?_
  obtain ⟨A, c, hv, _, _⟩ := Kd.R_reads hR
  rw [List.length_map] at hv
  rw [hv] at hR
  exact ⟨A, c, by rw [he, hv], Kd.F_mono (Kd.R_F hR) (fun k hk => ⟨(h.fresh hk).1, fun e => by have := h.g_.2.2.2; omega⟩), hb⟩
theorem Duo.room_ (h : Duo w W N M room own g Qn Q n I) : Calls Try.prog 24 #[.pointer (some ⟨N, 0, none⟩)] W fun e W' => e = .returned (.int .i64 room) ∧ W' = W := by
  obtain ⟨G, hN⟩ := h.net
  exact room_calls hN
set_option maxHeartbeats 4000000 in
set_option maxRecDepth 100000 in
theorem same_net_calls (h : Duo w W N M room own g Q Q n (fun _ => False)) (hn : n ≤ 1000) :
    Calls Try.prog 22 #[.pointer (some ⟨N, 0, none⟩), .pointer (some ⟨g, 0, none⟩)] W fun e W' => e = .returned (.bool true) ∧ Duo w W' N M room own g Q Q n (fun _ => False) ∧ Keep2 W N M g own W' own ∧ W.heap.size ≤ W'.heap.size := by
  have HH := Aside0.mk h
  have HNN := Aside0.mk hn
  obtain ⟨v, st, hG, hR, hst⟩ := h.ref.ex
  obtain ⟨Ar, cr, hv, _, _⟩ := Kd.N_reads hG.row
  subst hv
  obtain ⟨q, hq⟩ : ∃ q : Nat, q = st.length := ⟨_, rfl⟩
  rw [← hq] at hG
  have HG := Aside0.mk hG
  have HREP := Aside0.mk hR
  have HQ := Aside0.mk (And.intro hq (show q ≤ 1000 by omega))
  have HROW := Aside0.mk (Kd.N_mono hG.row (fun k hk => (⟨hk.1.1, hk.2⟩ : Out own N M k ∧ k ≠ g)))
  clear h hn hG hR hst hq
  go_enter Try.func22, Try.ntmps22
  go_wp2_with (go_at_call 19; (with_reducible refine (HH.out.tenants HREP.out (by have := HQ.out; omega) HQ.out.1).mono ?_); rintro e w1 ⟨An, cn, rfl, hF, hb⟩; have HF1 := Aside0.mk hF; have HB1 := Aside0.mk hb; have H1 := Aside0.mk (HH.out.then_ hb); have HC1 := Aside0.mk (HG.out.below hb).cell; clear hF hb)
  refine start_ (n := 17) (S := fun w' => w'.cell? ⟨g, 0, none⟩ = some (.int .i64 room) ∧ w'.cell? ⟨g, 1, none⟩ = some (.slice Ar q cr)) (ds := []) #[false, false, false, false, false, false, false, false, false, false, false, false, false, false, false, false, false] (by kernel_rfl) rfl rfl (HG.out.below (below_drew1 HB1.out)).cell (fun hHeld => ?_); refine with_tabW sameA.tab2 sameA.bits2 (fun HT_ HW_ => ?_)
  have H2 := Aside0.mk (H1.out.then_ (below_drew1 (Below.refl _ _)))
  have HBW0 := Aside0.mk (below_drew1 HB1.out)
  have HC2 := Aside0.mk (HG.out.below (below_drew1 HB1.out)).cell
  have HF2 := Aside0.mk (Kd.F_below HF1.out (below_drew1 (Below.refl _ _)))
  have HROW2 := Aside0.mk (Kd.N_below HROW.out (below_drew1 HB1.out))
  generalize w1.drew = W0 at *
  refine pure_ (i := 0) (N := some 10) (v := ?_) (a' := ?_) #[true, false, false, false, false, false, false, false, false, false, false, false, false, false, false, false, false] rfl rfl (any_of HT_.out (by kernel_rfl)) (fun _ _ _ h => h) (Or.inl ⟨by rfl, ?_⟩) ?_ ?_
  rotate_left
  · intro w'
    go_simp
    with_reducible rfl
  rotate_left
  · simp only [Act.put, List.setIfInBounds_toArray, List.set_cons_zero, List.set_cons_succ, i64_w, i32_w, xu32_w, xu8_w]
    rfl
  refine pure_ (i := 1) (N := some 11) (v := ?_) (a' := ?_) #[true, true, false, false, false, false, false, false, false, false, false, false, false, false, false, false, false] rfl rfl (any_of HT_.out (by kernel_rfl)) (fun _ _ _ h => h) (Or.inl ⟨by rfl, ?_⟩) ?_ ?_
  rotate_left
  · intro w'
    go_simp
    with_reducible rfl
  rotate_left
  · simp only [Act.put, List.setIfInBounds_toArray, List.set_cons_zero, List.set_cons_succ, i64_w, i32_w, xu32_w, xu8_w]
    rfl
  refine pure_ (i := 2) (N := some 12) (v := ?_) (a' := ?_) #[true, true, true, false, false, false, false, false, false, false, false, false, false, false, false, false, false] rfl rfl (any_of HT_.out (by kernel_rfl)) (fun _ _ _ h => h) (Or.inl ⟨by rfl, ?_⟩) ?_ ?_
  rotate_left
  · intro w'
    go_simp
    with_reducible rfl
  rotate_left
  · simp only [Act.put, List.setIfInBounds_toArray, List.set_cons_zero, List.set_cons_succ, i64_w, i32_w, xu32_w, xu8_w]
    rfl
  refine pure_ (i := 3) (N := some 13) (v := ?_) (a' := ?_) #[true, true, true, true, false, false, false, false, false, false, false, false, false, false, false, false, false] rfl rfl (any_of HT_.out (by kernel_rfl)) (fun _ _ _ h => h) (Or.inl ⟨by rfl, ?_⟩) ?_ ?_
  rotate_left
  · intro w'
    go_simp
    with_reducible rfl
  rotate_left
  · simp only [Act.put, List.setIfInBounds_toArray, List.set_cons_zero, List.set_cons_succ, i64_w, i32_w, xu32_w, xu8_w]
    rfl
  refine pure_ (i := 4) (N := some 14) (v := ?_) (a' := ?_) #[true, true, true, true, true, false, false, false, false, false, false, false, false, false, false, false, false] rfl rfl (any_of HT_.out (by kernel_rfl)) (fun _ _ _ h => h) (Or.inl ⟨by rfl, ?_⟩) ?_ ?_
  rotate_left
  · intro w'
    go_simp
    with_reducible rfl
  rotate_left
  · simp only [Act.put, List.setIfInBounds_toArray, List.set_cons_zero, List.set_cons_succ, i64_w, i32_w, xu32_w, xu8_w]
    rfl
  refine take_ (i := 5) (N := some 15) (v := ?_) (a' := ?_) #[true, true, true, true, true, true, false, false, false, false, false, false, false, false, false, false, false] rfl rfl (take_ofW HT_.out HW_.out (by kernel_rfl)) (fun _ _ _ h => h) (Or.inl ⟨by rfl, ?_⟩) hHeld ?_ ?_
  rotate_left
  · rintro w' ⟨s0, s1⟩
    go_simp
    with_reducible rfl
  rotate_left
  · simp only [Act.put, List.setIfInBounds_toArray, List.set_cons_zero, List.set_cons_succ, i64_w, i32_w, xu32_w, xu8_w]
    rfl
  refine pure_ (i := 6) (N := some 16) (v := ?_) (a' := ?_) #[true, true, true, true, true, true, true, false, false, false, false, false, false, false, false, false, false] rfl rfl (any_of HT_.out (by kernel_rfl)) (fun _ _ _ h => h) (Or.inl ⟨by rfl, ?_⟩) ?_ ?_
  rotate_left
  · intro w'
    go_simp
    with_reducible rfl
  rotate_left
  · simp only [Act.put, List.setIfInBounds_toArray, List.set_cons_zero, List.set_cons_succ, i64_w, i32_w, xu32_w, xu8_w]
    rfl
  refine pure_ (i := 7) (N := some 17) (v := ?_) (a' := ?_) #[true, true, true, true, true, true, true, true, false, false, false, false, false, false, false, false, false] rfl rfl (any_of HT_.out (by kernel_rfl)) (fun _ _ _ h => h) (Or.inl ⟨by rfl, ?_⟩) ?_ ?_
  rotate_left
  · intro w'
    go_simp
    with_reducible rfl
  rotate_left
  · simp only [Act.put, List.setIfInBounds_toArray, List.set_cons_zero, List.set_cons_succ, i64_w, i32_w, xu32_w, xu8_w]
    rfl
  refine pure_ (i := 8) (N := some 18) (v := ?_) (a' := ?_) #[true, true, true, true, true, true, true, true, true, false, false, false, false, false, false, false, false] rfl rfl (any_of HT_.out (by kernel_rfl)) (fun _ _ _ h => h) (Or.inl ⟨by rfl, ?_⟩) ?_ ?_
  rotate_left
  · intro w'
    go_simp
    with_reducible rfl
  rotate_left
  · simp only [Act.put, List.setIfInBounds_toArray, List.set_cons_zero, List.set_cons_succ, i64_w, i32_w, xu32_w, xu8_w]
    rfl
  refine pure_ (i := 9) (N := some 19) (v := ?_) (a' := ?_) #[true, true, true, true, true, true, true, true, true, true, false, false, false, false, false, false, false] rfl rfl (any_of HT_.out (by kernel_rfl)) (fun _ _ _ h => h) (Or.inl ⟨by rfl, ?_⟩) ?_ ?_
  rotate_left
  · intro w'
    go_simp
    with_reducible rfl
  rotate_left
  · simp only [Act.put, List.setIfInBounds_toArray, List.set_cons_zero, List.set_cons_succ, i64_w, i32_w, xu32_w, xu8_w]
    rfl
  refine pure_ (i := 11) (N := some 21) (v := ?_) (a' := ?_) #[true, true, true, true, true, true, true, true, true, true, false, true, false, false, false, false, false] rfl rfl (any_of HT_.out (by kernel_rfl)) (fun _ _ _ h => h) (Or.inl ⟨by rfl, ?_⟩) ?_ ?_
  rotate_left
  · intro w'
    go_simp
    with_reducible rfl
  rotate_left
  · simp only [Act.put, List.setIfInBounds_toArray, List.set_cons_zero, List.set_cons_succ, i64_w, i32_w, xu32_w, xu8_w]
    rfl
  refine pure_ (i := 12) (N := some 22) (v := ?_) (a' := ?_) #[true, true, true, true, true, true, true, true, true, true, false, true, true, false, false, false, false] rfl rfl (any_of HT_.out (by kernel_rfl)) (fun _ _ _ h => h) (Or.inl ⟨by rfl, ?_⟩) ?_ ?_
  rotate_left
  · intro w'
    go_simp
    with_reducible rfl
  rotate_left
  · simp only [Act.put, List.setIfInBounds_toArray, List.set_cons_zero, List.set_cons_succ, i64_w, i32_w, xu32_w, xu8_w]
    rfl
  refine pure_ (i := 13) (N := some 23) (v := ?_) (a' := ?_) #[true, true, true, true, true, true, true, true, true, true, false, true, true, true, false, false, false] rfl rfl (any_of HT_.out (by kernel_rfl)) (fun _ _ _ h => h) (Or.inl ⟨by rfl, ?_⟩) ?_ ?_
  rotate_left
  · intro w'
    go_simp
    with_reducible rfl
  rotate_left
  · simp only [Act.put, List.setIfInBounds_toArray, List.set_cons_zero, List.set_cons_succ, i64_w, i32_w, xu32_w, xu8_w]
    rfl
  refine take_ (i := 14) (N := some 24) (v := ?_) (a' := ?_) #[true, true, true, true, true, true, true, true, true, true, false, true, true, true, true, false, false] rfl rfl (take_ofW HT_.out HW_.out (by kernel_rfl)) (fun _ _ _ h => h) (Or.inl ⟨by rfl, ?_⟩) hHeld ?_ ?_
  rotate_left
  · rintro w' ⟨s0, s1⟩
    go_simp
    with_reducible rfl
  rotate_left
  · simp only [Act.put, List.setIfInBounds_toArray, List.set_cons_zero, List.set_cons_succ, i64_w, i32_w, xu32_w, xu8_w]
    rfl
  refine one_ (i := 10) (N := some 20) #[true, true, true, true, true, true, true, true, true, true, true, true, true, true, true, false, false] rfl rfl (one_of HT_.out (by kernel_rfl)) (by decide) (fun K hK => ?_)
  refine goes_ Try.func24 (by kernel_rfl) rfl #[.pointer (some ⟨N, 0, none⟩)] (by rfl) rfl rfl (by (try simp only [List.map_toArray, List.map_cons, List.map_nil]); first | done | rfl) ?_
  with_reducible refine (H2.out.room_).mono ?_
  rintro e w9 ⟨rfl, h9⟩
  subst w9
  refine ⟨_, rfl, ?_⟩
  refine hK.out _ _ HC2.out (fun hHeld => ?_)
  clear hK K
  refine norm_ (a' := ?_) ?_ ?_
  rotate_left
  · show Act.put _ (some 20) _ = _
    simp only [Act.put, List.setIfInBounds_toArray, List.set_cons_zero, List.set_cons_succ, i64_w, i32_w, xu32_w, xu8_w]
    rfl
  refine pure_ (i := 15) (N := some 25) (v := ?_) (a' := ?_) #[true, true, true, true, true, true, true, true, true, true, true, true, true, true, true, true, false] rfl rfl (any_of HT_.out (by kernel_rfl)) (fun _ _ _ h => h) (Or.inl ⟨by rfl, ?_⟩) ?_ ?_
  rotate_left
  · intro w'
    go_simp
    with_reducible rfl
  rotate_left
  · simp only [Act.put, List.setIfInBounds_toArray, List.set_cons_zero, List.set_cons_succ, i64_w, i32_w, xu32_w, xu8_w]
    rfl
  refine pure_ (i := 16) (N := some 26) (v := ?_) (a' := ?_) #[true, true, true, true, true, true, true, true, true, true, true, true, true, true, true, true, true] rfl rfl (any_of HT_.out (by kernel_rfl)) (fun _ _ _ h => h) (Or.inl ⟨by rfl, ?_⟩) ?_ ?_
  rotate_left
  · intro w'
    go_simp
    with_reducible rfl
  rotate_left
  · simp only [Act.put, List.setIfInBounds_toArray, List.set_cons_zero, List.set_cons_succ, i64_w, i32_w, xu32_w, xu8_w]
    rfl
  refine done_ (done_of HT_.out (by kernel_rfl)) ?_
  obtain ⟨g0, g1⟩ := HC2.out
  go_wp2_with (fail)
  go_loopg [32] (q + 1) (fun kq v32 wr => ∃ i : Nat, v32 = .int .i64 i ∧ Aside0 (kq + i = q + 1 ∧ i ≤ q) ∧ Aside0 (Duo w wr N M room own g Q Q n (fun _ => False)) ∧ Aside0 (Keep2 W0 N M g own wr own) ∧ Aside0 (W0.heap.size ≤ wr.heap.size))
  case atStart => exact ⟨0, rfl, ⟨by omega⟩, H2, ⟨Keep2.then_ (Below.refl _ _)⟩, ⟨Nat.le_refl _⟩⟩
  case round =>
    obtain ⟨i, rfl, HI, HD, HK, HS⟩ := hrel
    cases gk with
    | zero => have := HI.out; omega
    | succ k1 =>
    by_cases hi : i < q
    · have hi0 : (0 : Int) ≤ (i : Int) := by omega
      have hi1 : (i : Int) < (q : Int) := by omega
      have hi2 : (i : Int) + 1 ≤ 9223372036854775807 := by have := HQ.out; omega
      have hil : i < st.length := by have := HQ.out; omega
      obtain ⟨ad, A1, c1, m, hA, x0, x1, hm, hmc, hF⟩ := queue_at (Kd.N_step HROW2.out (fun k hk hlt => (HK.out k hk.1 hk.2 hlt).1)) hil
      obtain ⟨ad2, hA2, n0⟩ := name_cell (Kd.F_step HF2.out (fun k hk hlt => (HK.out k hk.1 hk.2 hlt).1)) i hi
      have hnm : (st.map (·.f0)).getD i ⟨#[]⟩ = (st[i]).f0 := by rw [List.getD_eq_getElem?_getD, List.getElem?_map, List.getElem?_eq_getElem hil]; rfl
      rw [hnm] at n0
      subst hA
      subst hA2
      generalize st[i] = y at *
      obtain ⟨ys, yl⟩ := y
      dsimp only at x0 hm hF n0
      have HN0 := Aside0.mk n0
      clear hi hil hnm hm hmc hF n0
      go_wp2_with (first
        | ((with_reducible refine gate_dst (N := 7) rfl ?_); refine box_event ?hg (N := 7) ?hd (cs := (quL ⟨#[]⟩ none 0 0).toArray) (t := 74) ?hr ?_; (case hd => rfl); (case hg => rfl); (case hr => first | (go_simp; done) | (go_simp; rfl)); intro X hX w5 hx1 hb1; have H5 := Aside0.mk (And.intro hx1 (And.intro hb1 (show wr.heap.size ≤ X by omega))); clear hX hx1 hb1)
        | ((with_reducible refine gate_ (.store 74 (.tmp 7) (.tmp 36)) rfl ?_); refine store_blk rfl 74 (.tmp 7) (.tmp 36) rfl X (quL ⟨#[]⟩ none 0 0) (quL ys A1 m c1) rfl rfl H5.out.1 rfl size74 (quL_one _ _ _ _) ?_; intro w6 ha hka hba; have HB6 := Aside0.mk (hba wr H5.out.2.2 H5.out.2.1); have HX6 := Aside0.mk (DuoX.made HD.out H5.out.2.2 HB6.out ha); clear ha hka hba x0 x1))
      refine start_ (n := 15) (S := fun w' => w'.cell? (ad2.add i) = some (.string ys) ∧ w'.cell? ⟨X, 0, none⟩ = some (.string ys)) (ds := []) #[false, false, false, false, false, false, false, false, false, false, false, false, false, false, false] (by kernel_rfl) rfl rfl ⟨pw_cell_below (below_drew1 HB6.out) HN0.out, (cellsQ (HX6.out.then_ (below_drew1 (Below.refl _ _))).blk).1⟩ (fun hHeld => ?_); refine with_tabW sameB.tab7 sameB.bits7 (fun HT_ HW_ => ?_)
      have HB7 := Aside0.mk (below_drew1 HB6.out)
      have HX7 := Aside0.mk (HX6.out.then_ (below_drew1 (Below.refl _ _)))
      have HN7 := Aside0.mk (pw_cell_below HB7.out HN0.out)
      have HAO := Aside0.mk (name_in HF2.out i (by have := hi1; omega))
      generalize w6.drew = W7 at *
      refine pure_ (i := 0) (N := some 37) (v := ?_) (a' := ?_) #[true, false, false, false, false, false, false, false, false, false, false, false, false, false, false] rfl rfl (any_of HT_.out (by kernel_rfl)) (fun _ _ _ h => h) (Or.inl ⟨by rfl, ?_⟩) ?_ ?_
      rotate_left
      · intro w'
        go_simp
        with_reducible rfl
      rotate_left
      · simp only [Act.put, List.setIfInBounds_toArray, List.set_cons_zero, List.set_cons_succ, i64_w, i32_w, xu32_w, xu8_w]
        rfl
      refine pure_ (i := 1) (N := some 38) (v := ?_) (a' := ?_) #[true, true, false, false, false, false, false, false, false, false, false, false, false, false, false] rfl rfl (any_of HT_.out (by kernel_rfl)) (fun _ _ _ h => h) (Or.inl ⟨by rfl, ?_⟩) ?_ ?_
      rotate_left
      · intro w'
        go_simp
        with_reducible rfl
      rotate_left
      · simp only [Act.put, List.setIfInBounds_toArray, List.set_cons_zero, List.set_cons_succ, i64_w, i32_w, xu32_w, xu8_w]
        rfl
      refine pure_ (i := 2) (N := some 39) (v := ?_) (a' := ?_) #[true, true, true, false, false, false, false, false, false, false, false, false, false, false, false] rfl rfl (any_of HT_.out (by kernel_rfl)) (fun _ _ _ h => h) (Or.inl ⟨by rfl, ?_⟩) ?_ ?_
      rotate_left
      · intro w'
        go_simp
        with_reducible rfl
      rotate_left
      · simp only [Act.put, List.setIfInBounds_toArray, List.set_cons_zero, List.set_cons_succ, i64_w, i32_w, xu32_w, xu8_w]
        rfl
      refine pure_ (i := 4) (N := some 41) (v := ?_) (a' := ?_) #[true, true, true, false, true, false, false, false, false, false, false, false, false, false, false] rfl rfl (any_of HT_.out (by kernel_rfl)) (fun _ _ _ h => h) (Or.inl ⟨by rfl, ?_⟩) ?_ ?_
      rotate_left
      · intro w'
        go_simp
        with_reducible rfl
      rotate_left
      · simp only [Act.put, List.setIfInBounds_toArray, List.set_cons_zero, List.set_cons_succ, i64_w, i32_w, xu32_w, xu8_w]
        rfl
      refine take_ (i := 3) (N := some 40) (v := ?_) (a' := ?_) #[true, true, true, true, true, false, false, false, false, false, false, false, false, false, false] rfl rfl (take_ofW HT_.out HW_.out (by kernel_rfl)) (fun _ _ _ h => h) (Or.inl ⟨by rfl, ?_⟩) hHeld ?_ ?_
      rotate_left
      · rintro w' ⟨s0, s1⟩
        go_simp
        with_reducible rfl
      rotate_left
      · simp only [Act.put, List.setIfInBounds_toArray, List.set_cons_zero, List.set_cons_succ, i64_w, i32_w, xu32_w, xu8_w]
        rfl
      refine take_ (i := 5) (N := some 42) (v := ?_) (a' := ?_) #[true, true, true, true, true, true, false, false, false, false, false, false, false, false, false] rfl rfl (take_ofW HT_.out HW_.out (by kernel_rfl)) (fun _ _ _ h => h) (Or.inl ⟨by rfl, ?_⟩) hHeld ?_ ?_
      rotate_left
      · rintro w' ⟨s0, s1⟩
        go_simp
        with_reducible rfl
      rotate_left
      · simp only [Act.put, List.setIfInBounds_toArray, List.set_cons_zero, List.set_cons_succ, i64_w, i32_w, xu32_w, xu8_w]
        rfl
      refine pure_ (i := 6) (N := some 43) (v := ?_) (a' := ?_) #[true, true, true, true, true, true, true, false, false, false, false, false, false, false, false] rfl rfl (any_of HT_.out (by kernel_rfl)) (fun _ _ _ h => h) (Or.inl ⟨by rfl, ?_⟩) ?_ ?_
      rotate_left
      · intro w'
        go_simp
        with_reducible rfl
      rotate_left
      · simp only [Act.put, List.setIfInBounds_toArray, List.set_cons_zero, List.set_cons_succ, i64_w, i32_w, xu32_w, xu8_w]
        rfl
      refine pure_ (i := 7) (N := some 44) (v := ?_) (a' := ?_) #[true, true, true, true, true, true, true, true, false, false, false, false, false, false, false] rfl rfl (any_of HT_.out (by kernel_rfl)) (fun _ _ _ h => h) (Or.inl ⟨by rfl, ?_⟩) ?_ ?_
      rotate_left
      · intro w'
        go_simp
        with_reducible rfl
      rotate_left
      · simp only [Act.put, List.setIfInBounds_toArray, List.set_cons_zero, List.set_cons_succ, i64_w, i32_w, xu32_w, xu8_w]
        rfl
      refine pure_ (i := 8) (N := some 45) (v := ?_) (a' := ?_) #[true, true, true, true, true, true, true, true, true, false, false, false, false, false, false] rfl rfl (any_of HT_.out (by kernel_rfl)) (fun _ _ _ h => h) (Or.inl ⟨by rfl, ?_⟩) ?_ ?_
      rotate_left
      · intro w'
        go_simp
        with_reducible rfl
      rotate_left
      · simp only [Act.put, List.setIfInBounds_toArray, List.set_cons_zero, List.set_cons_succ, i64_w, i32_w, xu32_w, xu8_w]
        rfl
      refine pure_ (i := 9) (N := some 46) (v := ?_) (a' := ?_) #[true, true, true, true, true, true, true, true, true, true, false, false, false, false, false] rfl rfl (any_of HT_.out (by kernel_rfl)) (fun _ _ _ h => h) (Or.inl ⟨by rfl, ?_⟩) ?_ ?_
      rotate_left
      · intro w'
        go_simp
        with_reducible rfl
      rotate_left
      · simp only [Act.put, List.setIfInBounds_toArray, List.set_cons_zero, List.set_cons_succ, i64_w, i32_w, xu32_w, xu8_w]
        rfl
      refine pure_ (i := 10) (N := some 47) (v := ?_) (a' := ?_) #[true, true, true, true, true, true, true, true, true, true, true, false, false, false, false] rfl rfl (any_of HT_.out (by kernel_rfl)) (fun _ _ _ h => h) (Or.inl ⟨by rfl, ?_⟩) ?_ ?_
      rotate_left
      · intro w'
        go_simp
        with_reducible rfl
      rotate_left
      · simp only [Act.put, List.setIfInBounds_toArray, List.set_cons_zero, List.set_cons_succ, i64_w, i32_w, xu32_w, xu8_w]
        rfl
      refine take_ (i := 11) (N := some 48) (v := ?_) (a' := ?_) #[true, true, true, true, true, true, true, true, true, true, true, true, false, false, false] rfl rfl (take_ofW HT_.out HW_.out (by kernel_rfl)) (fun _ _ _ h => h) (Or.inl ⟨by rfl, ?_⟩) hHeld ?_ ?_
      rotate_left
      · rintro w' ⟨s0, s1⟩
        go_simp
        with_reducible rfl
      rotate_left
      · simp only [Act.put, List.setIfInBounds_toArray, List.set_cons_zero, List.set_cons_succ, i64_w, i32_w, xu32_w, xu8_w]
        rfl
      refine one_ (i := 12) (N := some 49) #[true, true, true, true, true, true, true, true, true, true, true, true, true, false, false] rfl rfl (one_of HT_.out (by kernel_rfl)) (by decide) (fun K hK => ?_)
      refine goes_ Try.func23 (by kernel_rfl) rfl #[.pointer (some ⟨N, 0, none⟩), .pointer (some ⟨g, 0, none⟩), .string ys] (by rfl) rfl rfl (by (try simp only [List.map_toArray, List.map_cons, List.map_nil]); first | done | rfl) ?_
      with_reducible refine (sameof_calls HX7.out.d HNN.out ys).mono ?_
      rintro e w8 ⟨rfl, hd, hk, hsz⟩
      refine ⟨_, rfl, ?_⟩
      have H8 := Aside0.mk (HX7.out.keep hd hk (fun e => e))
      have HK8 := Aside0.mk hk
      have HS8 := Aside0.mk hsz
      have HN8 := Aside0.mk ((cell_same (hk _ HAO.out.1 HAO.out.2 (cell_lt HN7.out)).1).trans HN7.out)
      clear hd hk hsz
      refine hK.out _ _ ⟨HN8.out, (cellsQ H8.out.blk).1⟩ (fun hHeld => ?_)
      clear hK K
      refine norm_ (a' := ?_) ?_ ?_
      rotate_left
      · show Act.put _ (some 49) _ = _
        simp only [Act.put, List.setIfInBounds_toArray, List.set_cons_zero, List.set_cons_succ, i64_w, i32_w, xu32_w, xu8_w]
        rfl
      refine pure_ (i := 13) (N := some 50) (v := ?_) (a' := ?_) #[true, true, true, true, true, true, true, true, true, true, true, true, true, true, false] rfl rfl (any_of HT_.out (by kernel_rfl)) (fun _ _ _ h => h) (Or.inl ⟨by rfl, ?_⟩) ?_ ?_
      rotate_left
      · intro w'
        go_simp
        with_reducible rfl
      rotate_left
      · simp only [Act.put, List.setIfInBounds_toArray, List.set_cons_zero, List.set_cons_succ, i64_w, i32_w, xu32_w, xu8_w]
        rfl
      refine pure_ (i := 14) (N := some 51) (v := ?_) (a' := ?_) #[true, true, true, true, true, true, true, true, true, true, true, true, true, true, true] rfl rfl (any_of HT_.out (by kernel_rfl)) (fun _ _ _ h => h) (Or.inl ⟨by rfl, ?_⟩) ?_ ?_
      rotate_left
      · intro w'
        go_simp
        with_reducible rfl
      rotate_left
      · simp only [Act.put, List.setIfInBounds_toArray, List.set_cons_zero, List.set_cons_succ, i64_w, i32_w, xu32_w, xu8_w]
        rfl
      refine done_ (done_of HT_.out (by kernel_rfl)) ?_
      try go_wp2
      have z6 := HB7.out.size
      have z8 := HS8.out
      have zs := HS.out
      go_roundg k1
      case measure => omega
      case rel => exact ⟨i + 1, by first | rfl | (simp; done) | (rw [wrap64_self (n := (i : Int) + 1) (by omega) (by omega)]; first | rfl | (simp; done)), ⟨by have := HI.out; omega⟩, ⟨H8.out.d⟩, ⟨(HK.out.trans HS.out (Keep2.then_ HB7.out)).trans (by omega) HK8.out⟩, ⟨by omega⟩⟩
    · have hi1 : ¬ (i : Int) < (q : Int) := by omega
      clear hi
      go_wp2_with (fail)
      go_ret
      exact ⟨rfl, HD.out, (Keep2.then_ HBW0.out).trans HBW0.out.size HK.out, Nat.le_trans HBW0.out.size HS.out⟩
end
end Go.Proofs.Ytlnipfmgdkiboaa.N
