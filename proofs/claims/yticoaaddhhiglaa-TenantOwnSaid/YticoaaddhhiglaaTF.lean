import Derived.Test.YticoaaddhhiglaaTE
import Derived.Test.YticoaaddhhiglaaQ10
/- The table of tenants by hand: the chapter's examples (mkT15.py). -/
namespace Go.Proofs.Yticoaaddhhiglaa.T
open Go.RowKit Go.Proofs.Yticoaaddhhiglaa.Q Go.Proofs.YticoaaddhhiglaaW.PrintWords Go.Proofs.YticoaaddhhiglaaW.PrintLast Go.Proofs.YticoaaddhhiglaaW.PrintMore
set_option linter.unusedVariables false
set_option linter.unusedSimpArgs false
def secretK : S23 := ⟨1, (⟨#[48, 49, 50, 51, 52, 53, 54, 55, 56, 57, 97, 98, 99, 100, 101, 102]⟩ : ByteArray)⟩
def freshC (s : ByteArray) : S27 := ⟨0, s, secretK, ⟨5, 9, 3, 1000⟩, 4, 3, (⟨#[]⟩ : ByteArray)⟩
abbrev nA : ByteArray := ⟨#[97]⟩
abbrev nB : ByteArray := ⟨#[98]⟩
def allowC : S27 := ⟨4, nA, ⟨0, ⟨#[]⟩⟩, ⟨0, 0, 0, 0⟩, 0, 0, nB⟩
def tA1 : S39 := ⟨nA, [secretK], ⟨5, 9, 3, 1000⟩, 4, 3, [nB]⟩
theorem fresh_calls (s : ByteArray) (w : World) : Calls Try.prog 29 #[.string s] w fun e w' => e = .returned (.agg (chg (freshC s)).toArray) ∧ Below w.heap.size w w' := manometerlaw18_fresh.calls s _ _ _ _ _ _ _ _ _ _ _ w rfl
/-- A table, and what it lies beside. -/
structure LvW (w0 : World) (D M : Nat) (st : St) (w : World) : Prop where
  tab : TabG w D M st
  below : Below w0.heap.size w0 w
  hD : w0.heap.size ≤ D
  hM : w0.heap.size ≤ M
theorem LvW.then_ {w0 : World} {D M : Nat} {st : St} {w w1 : World} (h : LvW w0 D M st w) (hb : Below w.heap.size w w1) : LvW w0 D M st w1 := ⟨h.tab.below hb, below_step h.below hb, h.hD, h.hM⟩
theorem LvW.made (w : World) : Calls Try.prog 13 #[] w fun e w' => ∃ D M, e = .returned (.pointer (some ⟨D, 0, none⟩)) ∧ LvW w D M [] w' :=
  (new_calls w).mono (fun e w' ⟨D, M, h1, h2, h3, h4, h5⟩ => ⟨D, M, h1, h2, h5, h3, h4⟩)
theorem LvW.do_ {w0 : World} {D M : Nat} {st st' : St} {w : World} (h : LvW w0 D M st w) {c : S27} {r : Int} (hr : doT st c = (r, st')) : Calls Try.prog 14 #[.pointer (some ⟨D, 0, none⟩), .agg (chg c).toArray] w fun e w' => e = .returned (.int .i64 r) ∧ LvW w0 D M st' w' :=
  (do_calls h.tab c).mono (fun e w' ⟨h1, h2, h3⟩ => by
    rw [hr] at h1 h2
    exact ⟨h1, h2, Chg.onto h.below (Nat.le_refl _) h3 (fun k e => by rw [e]; exact h.hM), h.hD, h.hM⟩)
theorem words_calls (k : Nat) {w : World} {A B : Option Addr} {n m c d : Nat} {l l' : List ByteArray} (hC : Kd.string.C w A n l) (hn : n = l.length) (hc : n ≤ c) (hC' : Kd.string.C w B m l') (hm : m = l'.length) (hd : m ≤ d) {r : Bool} (hr : manometerref18_Words.f k l l' = some r) : Calls Try.prog 30 #[.slice A n c, .slice B m d] w fun e w' => e = .returned (.bool r) ∧ Below w.heap.size w w' := by
  subst hn; subst hm
  exact (manometerref18_Words.calls k A c l B d l' r w hC hc hC' hd hr).mono (fun e w' h => ⟨h.1, h.2.below⟩)
theorem C_strs {w : World} {b : Nat} {l : List ByteArray} (h : w.heap[b]? = some (.cells (l.map Value.string).toArray 9 (0, 0))) (hl : l.length ≤ 1000) : Kd.string.C w (some ⟨b, 0, none⟩) l.length l := by
  refine ⟨rfl, by omega, fun _ => ⟨_, rfl, fun j p hj => ⟨[.string p], rfl, rfl, fun i u hu => ?_⟩⟩⟩
  rcases i with _ | i
  · injection hu with hu
    subst hu
    have := blk_cell h j
    rw [show (⟨b, 0, none⟩ : Addr).add (j * Kd.string.sz + 0) = ⟨b, j, none⟩ by rw [Addr.add_lit]; show (⟨b, 0 + (j * 1 + 0), none⟩ : Addr) = _; rw [Nat.mul_one, Nat.add_zero, Nat.zero_add]]
    rw [this]
    simp [hj]
  · cases hu
theorem words1 (k : Nat) {w : World} {A : Option Addr} {n c : Nat} {l : List ByteArray} (hC : Kd.string.C w A n l) (hn : n = l.length) (hc : n ≤ c) {a : ByteArray} {r : Bool} (hr : manometerref18_Words.f k l [a] = some r) : Calls Try.prog 30 #[.slice A n c, .slice (some ⟨w.heap.size, 0, none⟩) 1 1] (w.alloc (.cells #[.string a] 9)) fun e w' => e = .returned (.bool r) ∧ Below w.heap.size w w' :=
  (words_calls k (Kd.C_alloc hC _) hn hc (C_strs (l := [a]) (heap_alloc_new _ _) (by simp)) rfl (Nat.le_refl 1) hr).mono (fun e w' h => ⟨h.1, below_step (below_alloc (Below.refl _ _) _) h.2⟩)
theorem words2 (k : Nat) {w : World} {A : Option Addr} {n c : Nat} {l : List ByteArray} (hC : Kd.string.C w A n l) (hn : n = l.length) (hc : n ≤ c) {a b : ByteArray} {r : Bool} (hr : manometerref18_Words.f k l [a, b] = some r) : Calls Try.prog 30 #[.slice A n c, .slice (some ⟨w.heap.size, 0, none⟩) 2 2] (w.alloc (.cells #[.string a, .string b] 9)) fun e w' => e = .returned (.bool r) ∧ Below w.heap.size w w' :=
  (words_calls k (Kd.C_alloc hC _) hn hc (C_strs (l := [a, b]) (heap_alloc_new _ _) (by simp)) rfl (Nat.le_refl 2) hr).mono (fun e w' h => ⟨h.1, below_step (below_alloc (Below.refl _ _) _) h.2⟩)
theorem LvW.allow {w0 : World} {D M : Nat} {st st' : St} {w : World} (h : LvW w0 D M st w) {r : Int} (hr : doT st allowC = (r, st')) : Calls Try.prog 14 #[.pointer (some ⟨D, 0, none⟩), .agg #[.int .i64 4, .string nA, .int .i64 0, .string ⟨#[]⟩, .int .i64 0, .int .i64 0, .int .i64 0, .int .i64 0, .int .i64 0, .int .i64 0, .string nB]] w fun e w' => e = .returned (.int .i64 r) ∧ LvW w0 D M st' w' := by
  have e : (#[.int .i64 4, .string nA, .int .i64 0, .string ⟨#[]⟩, .int .i64 0, .int .i64 0, .int .i64 0, .int .i64 0, .int .i64 0, .int .i64 0, .string nB] : Array Value) = (chg allowC).toArray := rfl
  rw [e]
  exact h.do_ hr
theorem lv1 : doT [] (freshC nA) = (0, [newT (freshC nA)]) := by kernel_rfl
theorem lv2 : doT [newT (freshC nA)] (freshC nB) = (0, [newT (freshC nA), newT (freshC nB)]) := by kernel_rfl
theorem lv3 : doT [newT (freshC nA), newT (freshC nB)] (freshC nA) = (100, [newT (freshC nA), newT (freshC nB)]) := by kernel_rfl
theorem lv4 : doT [newT (freshC nA), newT (freshC nB)] allowC = (0, [tA1, newT (freshC nB)]) := by kernel_rfl
theorem lv5 : look [tA1, newT (freshC nB)] nA = some tA1 := by kernel_rfl
theorem lv6 : manometerref18_Words.f 3 (accessT [tA1, newT (freshC nB)] nB) [nA, nB] = some true := by kernel_rfl
theorem lv7 : manometerref18_Words.f 3 (accessT [tA1, newT (freshC nB)] nA) [nA] = some true := by kernel_rfl
theorem lv8 : readsT [tA1, newT (freshC nB)] nB nA = true := by kernel_rfl
theorem lv9 : readsT [tA1, newT (freshC nB)] nA nB = false := by kernel_rfl
theorem lv10 : (keysT [tA1, newT (freshC nB)]).length = 2 := by kernel_rfl
set_option maxHeartbeats 4000000 in
set_option maxRecDepth 100000 in
theorem live_calls (w : World) : Calls Try.prog 9 #[] w fun e w' => e = .returned (.bool true) ∧ Below w.heap.size w w' := by
  obtain ⟨s1, hs1⟩ : ∃ s, s = [newT (freshC nA)] := ⟨_, rfl⟩
  obtain ⟨s2, hs2⟩ : ∃ s, s = [newT (freshC nA), newT (freshC nB)] := ⟨_, rfl⟩
  obtain ⟨s3, hs3⟩ : ∃ s, s = [tA1, newT (freshC nB)] := ⟨_, rfl⟩
  obtain ⟨x, hx⟩ : ∃ x, x = tA1 := ⟨_, rfl⟩
  obtain ⟨c1, hc1⟩ : ∃ c, c = freshC nA := ⟨_, rfl⟩
  obtain ⟨c2, hc2⟩ : ∃ c, c = freshC nB := ⟨_, rfl⟩
  have hn1 : 1 = x.f5.length := by rw [hx]; rfl
  have F1 := Aside0.mk (show doT [] c1 = (0, s1) by rw [hs1, hc1]; exact lv1)
  have F2 := Aside0.mk (show doT s1 c2 = (0, s2) by rw [hs1, hs2, hc2]; exact lv2)
  have F3 := Aside0.mk (show doT s2 c1 = (100, s2) by rw [hs2, hc1]; exact lv3)
  have F4 := Aside0.mk (show doT s2 allowC = (0, s3) by rw [hs3, hs2]; exact lv4)
  have F5 := Aside0.mk (show look s3 nA = some x by rw [hs3, hx]; exact lv5)
  have F6 := Aside0.mk (show manometerref18_Words.f 3 (accessT s3 nB) [nA, nB] = some true by rw [hs3]; exact lv6)
  have F7 := Aside0.mk (show manometerref18_Words.f 3 (accessT s3 nA) [nA] = some true by rw [hs3]; exact lv7)
  have F8 := Aside0.mk (show readsT s3 nB nA = true by rw [hs3]; exact lv8)
  have F9 := Aside0.mk (show readsT s3 nA nB = false by rw [hs3]; exact lv9)
  have F10 := Aside0.mk (show (keysT s3).length = 2 by rw [hs3]; exact lv10)
  have G1 := Aside0.mk (show (chg (freshC nA)).toArray = (chg c1).toArray by rw [hc1])
  have G2 := Aside0.mk (show (chg (freshC nB)).toArray = (chg c2).toArray by rw [hc2])
  have HN1 := Aside0.mk hn1
  clear hs1 hs2 hs3 hx hn1 hc1 hc2
  go_enter Try.func9, Try.ntmps9
  go_wp2_with (first
    | (go_at_call 13; (with_reducible refine (LvW.made w).mono ?_); rintro e w1 ⟨D, M, rfl, h1⟩; have H1 := Aside0.mk h1; clear h1)
    | (go_at_call 29; have hmark := H4.out; (with_reducible refine (fresh_calls nA _).mono ?_); rintro e w5 ⟨rfl, hb⟩; rw [G1.out]; have H5 := Aside0.mk (H4.out.then_ hb); clear hb hmark)
    | (go_at_call 29; have hmark := H2.out; (with_reducible refine (fresh_calls nB _).mono ?_); rintro e w3 ⟨rfl, hb⟩; rw [G2.out]; have H3 := Aside0.mk (H2b.out.then_ hb); clear hb hmark)
    | (go_at_call 29; (with_reducible refine (fresh_calls nA _).mono ?_); rintro e w2 ⟨rfl, hb⟩; rw [G1.out]; have H2 := Aside0.mk (H1.out.then_ hb); clear hb)
    | (go_at_call 14; have hmark := H6.out; (with_reducible refine (H6.out.allow F4.out).mono ?_); rintro e w7 ⟨rfl, h⟩; have H7 := Aside0.mk h; clear h hmark)
    | (go_at_call 14; have hmark := H5.out; (with_reducible refine (H5.out.do_ F3.out).mono ?_); rintro e w6 ⟨rfl, h⟩; have H6 := Aside0.mk h; clear h hmark)
    | (go_at_call 14; have hmark := H3.out; (with_reducible refine (H3.out.do_ F2.out).mono ?_); rintro e w4 ⟨rfl, h⟩; have H4 := Aside0.mk h; clear h hmark)
    | (go_at_call 14; (with_reducible refine (H2.out.do_ F1.out).mono ?_); rintro e w2b ⟨rfl, h⟩; have H2b := Aside0.mk h; clear h)
    | (go_at_call 15; (with_reducible refine (get_calls H7.out.tab nA).mono ?_); rintro e w8 hg; obtain ⟨x', v1, v8, hlx, rfl, hr1, hr8⟩ := hg.1.resolve_left (fun h => by have := h.1; rw [F5.out] at this; cases this); rw [F5.out] at hlx; injection hlx with hlx; subst hlx; obtain ⟨A8, c8, hv8⟩ := Kd.R_slice hr8; rw [← HN1.out] at hv8; subst hv8; have H8 := Aside0.mk (H7.out.then_ hg.2); have HR8 := Aside0.mk (And.intro hr1 hr8); clear hg hr1 hr8)
    | ((with_reducible refine gate_dst (N := 2) rfl ?_); refine box_event ?hg (N := 2) ?hd (cs := (ten z39 (.slice none 0 0) (.slice none 0 0)).toArray) (t := 39) ?hr ?_; (case hd => rfl); (case hg => rfl); (case hr => first | (go_simp; done) | (go_simp; rfl)); intro E hE w9 h9 hb9; have H9 := Aside0.mk (H8.out.then_ hb9); have HE9 := Aside0.mk h9; have HEG := Aside0.mk (show w8.heap.size ≤ E by omega); have HB9 := Aside0.mk hb9; clear hE h9 hb9)
    | ((with_reducible refine gate_ (.store 39 (.tmp 2) (.tmp 34)) rfl ?_); refine store_blk rfl 39 (.tmp 2) (.tmp 34) rfl E (ten z39 (.slice none 0 0) (.slice none 0 0)) (ten x v1 (.slice A8 1 c8)) rfl rfl HE9.out rfl size39 (ten_one _ (one_of_R HR8.out.1) rfl) ?_; intro wa ha hka hba; have HA := Aside0.mk (H8.out.then_ (hba w8 HEG.out HB9.out)); obtain ⟨z1, z8, _, _⟩ := cells9 ha; clear ha hka hba)
    | (go_at_call 19; have hmark := Hc.out; (with_reducible refine (access_calls Hc.out.tab nA).mono ?_); rintro e wd ⟨Ad, cd, rfl, hCd, hcd, hb⟩; have Hd := Aside0.mk (Hc.out.then_ hb); have HCd := Aside0.mk (And.intro hCd hcd); clear hb hmark hCd hcd)
    | (go_at_call 19; (with_reducible refine (access_calls HA.out.tab nB).mono ?_); rintro e wb ⟨Ab, cb, rfl, hCb, hcb, hb⟩; have Hb := Aside0.mk (HA.out.then_ hb); have HCb := Aside0.mk (And.intro hCb hcb); clear hb hCb hcb z1 z8)
    | (go_at_call 30; have hmark := Hd.out; (with_reducible refine (words1 3 (l := accessT s3 nA) HCd.out.1 rfl HCd.out.2 F7.out).mono ?_); rintro e we ⟨rfl, hb⟩; have He := Aside0.mk (Hd.out.then_ hb); clear hb hmark)
    | (go_at_call 30; (with_reducible refine (words2 3 (l := accessT s3 nB) HCb.out.1 rfl HCb.out.2 F6.out).mono ?_); rintro e wc ⟨rfl, hb⟩; have Hc := Aside0.mk (Hb.out.then_ hb); clear hb)
    | (go_at_call 16; have hmark := Hf.out; (with_reducible refine (reads_calls Hf.out.tab nA nB).mono ?_); rintro e wg ⟨rfl, hb⟩; rw [F9.out]; have Hg := Aside0.mk (Hf.out.then_ hb); clear hb hmark)
    | (go_at_call 16; (with_reducible refine (reads_calls He.out.tab nB nA).mono ?_); rintro e wf ⟨rfl, hb⟩; rw [F8.out]; have Hf := Aside0.mk (He.out.then_ hb); clear hb)
    | (go_at_call 28; (with_reducible refine (keys_calls Hg.out.tab).mono ?_); rintro e wh ⟨Ah, ch, rfl, hCh, hch, hb⟩; have q10 := F10.out; have Hh := Aside0.mk (Hg.out.then_ hb); clear hb hCh hch))
  go_ret
  exact ⟨rfl, Hh.out.below⟩
end Go.Proofs.Yticoaaddhhiglaa.T
/- The laws by hand: few. -/
namespace Go.Proofs.Yticoaaddhhiglaa.T
open Go.RowKit Go.Proofs.Yticoaaddhhiglaa.Q Go.Proofs.YticoaaddhhiglaaW.PrintWords Go.Proofs.YticoaaddhhiglaaW.PrintLast Go.Proofs.YticoaaddhhiglaaW.PrintMore
set_option linter.unusedVariables false
set_option linter.unusedSimpArgs false
theorem few_l0 (l : List S27) (hl : l.length ≤ 9223372036854775807) : ∀ d i : Nat, i + d = l.length → ∃ r, manometerlaw18_few.l0 (2 * d + 1) l l (l.length : Int) (i : Int) = some r
  | 0, i, h => by
    rw [manometerlaw18_few.l0, if_neg (by omega)]
    exact ⟨_, rfl⟩
  | d + 1, i, h => by
    obtain ⟨r, hr⟩ := few_l0 l hl d (i + 1) (by omega)
    have hj : ∀ b : Bool, ∃ r, manometerlaw18_few.j1 (2 * d + 2) l l (l.length : Int) (i : Int) b = some r := by
      intro b
      rw [manometerlaw18_few.j1]
      cases b
      · rw [if_neg (by decide), show wrap64 ((i : Int) + 1) = ((i + 1 : Nat) : Int) by unfold wrap64; omega]
        exact ⟨r, hr⟩
      · rw [if_pos rfl]
        exact ⟨_, rfl⟩
    rw [show 2 * (d + 1) + 1 = (2 * d + 2) + 1 by omega, manometerlaw18_few.l0, if_pos (by omega), if_pos (by omega), if_pos (by omega)]
    split
    · exact hj _
    · split
      · exact hj _
      · exact hj _
theorem few_some (l : List S27) (hl : l.length ≤ 9223372036854775807) : ∃ k r, manometerlaw18_few.f k l = some r := by
  obtain ⟨r, hr⟩ := few_l0 l hl l.length 0 (by omega)
  exact ⟨_, r, hr⟩
/-- few: it answers, whatever the changes are. -/
theorem few_calls {A : Option Addr} {c : Nat} {l : List S27} (hl : l.length ≤ 9223372036854775807) : ∃ r, ∀ w : World, k27.C w A l.length l → l.length ≤ c → Calls Try.prog 10 #[.slice A l.length c] w fun e w' => e = .returned (.bool r) ∧ Below w.heap.size w w' := by
  obtain ⟨k, r, hr⟩ := few_some l hl
  exact ⟨r, fun w hC hc => manometerlaw18_few.calls k A c l r w hC hc hr⟩
theorem C_one27 {w : World} {b : Nat} {c : S27} (h : w.heap[b]? = some (.cells (chg c).toArray 27 (0, 0))) : k27.C w (some ⟨b, 0, none⟩) 1 [c] := by
  refine ⟨rfl, by decide, fun _ => ⟨_, rfl, fun j p hj => ?_⟩⟩
  rcases j with _ | j
  · injection hj with hj
    subst hj
    refine ⟨chg c, rfl, k27_mk w c, fun i u hu => ?_⟩
    have e : (⟨b, 0, none⟩ : Addr).add (0 * k27.sz + i) = ⟨b, i, none⟩ := by rw [Addr.add_lit, Nat.zero_mul, Nat.zero_add, Nat.zero_add]
    rw [e, blk_cell h i]
    simpa using hu
  · cases hj
theorem few1_calls (c : S27) : ∃ r, ∀ w : World, Calls Try.prog 10 #[.slice (some ⟨w.heap.size, 0, none⟩) 1 1] (w.alloc (.cells #[.int .i64 c.f0, .string c.f1, .int .i64 c.f2.f0, .string c.f2.f1, .int .i64 c.f3.f0, .int .i64 c.f3.f1, .int .i64 c.f3.f2, .int .i64 c.f3.f3, .int .i64 c.f4, .int .i64 c.f5, .string c.f6] 27)) fun e w' => e = .returned (.bool r) ∧ Below w.heap.size w w' := by
  obtain ⟨k, r, hr⟩ := few_some [c] (by simp)
  exact ⟨r, fun w => (manometerlaw18_few.calls k _ 1 [c] r _ (C_one27 (heap_alloc_new w (.cells (chg c).toArray 27))) (Nat.le_refl 1) hr).mono (fun e w' h => ⟨h.1, below_step (below_alloc (Below.refl _ _) _) h.2⟩)⟩
end Go.Proofs.Yticoaaddhhiglaa.T
