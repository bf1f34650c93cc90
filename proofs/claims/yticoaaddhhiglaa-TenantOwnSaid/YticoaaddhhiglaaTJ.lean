import Derived.Test.YticoaaddhhiglaaT30
import Derived.Test.YticoaaddhhiglaaQ18
/- The laws by hand: same (mkT31.py). -/
namespace Go.Proofs.Yticoaaddhhiglaa.T
open Go.RowKit Go.Proofs.Yticoaaddhhiglaa.Q Go.Proofs.YticoaaddhhiglaaW.PrintWords Go.Proofs.YticoaaddhhiglaaW.PrintLast Go.Proofs.YticoaaddhhiglaaW.PrintMore
set_option linter.unusedVariables false
set_option linter.unusedSimpArgs false
theorem uniqR_change {x : S39} {c : S27} (hu : x.f5.Nodup) : (changeT x c).2.f5.Nodup := by
  unfold changeT
  split
  · split
    · exact hu
    · split
      · exact hu
      · exact hu
  split
  · split
    · exact hu
    · exact hu
  split
  · exact hu
  split
  · split
    · exact hu
    · split
      · exact hu
      · rename_i h _
        show (x.f5 ++ [c.f6]).Nodup
        rw [List.nodup_append]
        refine ⟨hu, by simp, fun a ha b hb e => ?_⟩
        simp only [List.mem_cons, List.not_mem_nil, or_false] at hb
        rw [e, hb] at ha
        exact wordAt_none h ha
  · split
    · exact List.Nodup.sublist (List.eraseIdx_sublist x.f5 _) hu
    · exact hu
theorem uniqR_put {st : St} {x : S39} (h : UniqR st) (hx : x.f5.Nodup) : UniqR (put st x) := by
  intro y hy
  rcases put_mem hy with e | ⟨e, _⟩ | e
  · rw [e]; exact hx
  · exact h y e
  · exact h y e
theorem uniqR_do {st : St} {c : S27} (h : UniqR st) : UniqR (doT st c).2 := by
  unfold doT
  split
  · split
    · split
      · exact h
      · split
        · exact h
        · exact uniqR_put h (by simp [newT])
    · split
      · exact h
      · rename_i x hx
        split
        · exact uniqR_put h (uniqR_change (h x (look_mem hx).1))
        · exact h
  · exact h
theorem samekeys_self0 (l : List S82) (hl : l.length ≤ 9223372036854775807) : ∀ (d i k : Nat), i + d = l.length → d < k → manometerref18_SameKeys.l0 k l l (l.length : Int) (i : Int) = some true
  | 0, i, k + 1, h, _ => by rw [manometerref18_SameKeys.l0, if_neg (by omega)]
  | d + 1, i, k + 1, h, hk => by
    rw [manometerref18_SameKeys.l0, if_pos (by omega), if_pos (by omega), if_pos (by omega), if_pos (by omega), if_pos rfl, if_pos rfl, if_pos rfl, show wrap64 ((i : Int) + 1) = ((i + 1 : Nat) : Int) by unfold wrap64; omega]
    exact samekeys_self0 l hl d (i + 1) k (by omega) (by omega)
theorem samekeys_calls {w : World} {A B : Option Addr} {n c d : Nat} {l : List S82} (hC : k82.C w A n l) (hn : n = l.length) (hc : n ≤ c) (hC' : k82.C w B n l) (hd : n ≤ d) : Calls Try.prog 50 #[.slice A n c, .slice B n d] w fun e w' => e = .returned (.bool true) ∧ Below w.heap.size w w' := by
  subst hn
  refine (manometerref18_SameKeys.calls (l.length + 1) A c l B d l true w hC hc hC' hd ?_).mono (fun e w' h => ⟨h.1, h.2.below⟩)
  unfold manometerref18_SameKeys.f
  rw [if_pos rfl]
  exact samekeys_self0 l (Kd.C_max hC) l.length 0 _ (by omega) (by omega)
theorem words_same {w : World} {A B : Option Addr} {n c d : Nat} {l : List ByteArray} (hC : Kd.string.C w A n l) (hn : n = l.length) (hc : n ≤ c) (hC' : Kd.string.C w B n l) (hd : n ≤ d) (hl : n ≤ 1000) : Calls Try.prog 30 #[.slice A n c, .slice B n d] w fun e w' => e = .returned (.bool true) ∧ Below w.heap.size w w' :=
  words_calls (l.length + 1) hC hn hc hC' hn hd (words_self (by omega) (by omega))
theorem same_lit {w : World} {x : S39} {n n8 : Nat} (hn : n = x.f1.length) (hn8 : n8 = x.f5.length) (h1 : x.f1.length ≤ 100) (h5 : x.f5.length ≤ 100) {E A1 c1 A8 c8 F B1 d1 B8 d8} (h : Wz w E x A1 n c1 A8 n8 c8) (h' : Wz w F x B1 n d1 B8 n8 d8) :
    Calls Try.prog 17 #[.agg #[.string x.f0, .slice A1 n c1, .int .i64 x.f2.f0, .int .i64 x.f2.f1, .int .i64 x.f2.f2, .int .i64 x.f2.f3, .int .i64 x.f3, .int .i64 x.f4, .slice A8 n8 c8], .agg #[.string x.f0, .slice B1 n d1, .int .i64 x.f2.f0, .int .i64 x.f2.f1, .int .i64 x.f2.f2, .int .i64 x.f2.f3, .int .i64 x.f3, .int .i64 x.f4, .slice B8 n8 d8]] w fun e w' => e = .returned (.bool true) ∧ Below w.heap.size w w' := same_calls hn hn8 h1 h5 h h'
theorem names3 {w : World} {D M : Nat} {st : St} (h : TabG w D M st) : Calls Try.prog 21 #[.pointer (some ⟨D, 0, none⟩)] w fun e w' => ∃ A c, e = .returned (.slice A (namesT st).length c) ∧ (Kd.string.C w' A (namesT st).length (namesT st) ∧ (namesT st).length ≤ c) ∧ Below w.heap.size w w' :=
  (names_reads h).mono (fun e w' ⟨A, c, h1, h2, h3, _, h5⟩ => ⟨A, c, h1, ⟨h2, h3⟩, h5⟩)
theorem TabG.fine_ {w : World} {D M : Nat} {st : St} (h : TabG w D M st) : ∀ x ∈ st, Fine x := by obtain ⟨G, _, h2⟩ := h.ex; exact h2.fine
set_option maxHeartbeats 4000000 in
set_option maxRecDepth 100000 in
theorem same_law {w0 w : World} {D M g : Nat} {st : St} (h : TabG w D M st) (hr : RefT w0 g st w) (s : ByteArray) : Calls Try.prog 25 #[.pointer (some ⟨D, 0, none⟩), .pointer (some ⟨g, 0, none⟩), .string s] w fun e w' => e = .returned (.bool true) ∧ Below w.heap.size w w' := by
  have HTB := Aside0.mk h
  have HRF := Aside0.mk hr
  have HS16 := Aside0.mk h.few16
  have HFX := Aside0.mk h.fine_
  have HSO := Aside0.mk h.sorted
  obtain ⟨x, hx⟩ : ∃ x, x = getX st s := ⟨_, rfl⟩
  obtain ⟨b0, hb0⟩ : ∃ b, b = getB st s := ⟨_, rfl⟩
  obtain ⟨n1, hn1⟩ : ∃ n : Nat, n = x.f1.length := ⟨_, rfl⟩
  obtain ⟨n8, hn8⟩ : ∃ n : Nat, n = x.f5.length := ⟨_, rfl⟩
  obtain ⟨nn, hnn⟩ : ∃ n : Nat, n = (namesT st).length := ⟨_, rfl⟩
  obtain ⟨nk, hnk⟩ : ∃ n : Nat, n = (keysT st).length := ⟨_, rfl⟩
  obtain ⟨na, hna⟩ : ∃ n : Nat, n = (accessT st s).length := ⟨_, rfl⟩
  have HXS := Aside0.mk (show x.f1.length ≤ 100 ∧ x.f5.length ≤ 100 by have := getX_small h s; rw [← hx] at this; omega)
  have HX := Aside0.mk (And.intro hx (And.intro hn1 (And.intro hn8 hb0)))
  have HNN := Aside0.mk (And.intro hnn (And.intro hnk (And.intro hna (And.intro (show nn ≤ 1000 by rw [hnn]; have := h.few; omega) (show na ≤ 1000 by rw [hna]; have := access_few h s; omega)))))
  clear h hr hx hb0 hn1 hn8 hnn hnk hna
  go_enter Try.func25, Try.ntmps25
  go_wp2_with (first
    | (go_at_call 15; (with_reducible refine (get2_calls HTB.out s).mono ?_); rw [← HX.out.1, ← HX.out.2.1, ← HX.out.2.2.1, ← HX.out.2.2.2]; rintro e w1 ⟨A1, c1, A8, c8, rfl, hr, hb⟩; have HB1 := Aside0.mk hb; have HR1 := Aside0.mk hr; clear hr hb)
    | ((with_reducible refine gate_dst (N := 7) rfl ?_); refine box_event ?hg (N := 7) ?hd (cs := (ten z39 (.slice none 0 0) (.slice none 0 0)).toArray) (t := 39) ?hr ?_; (case hd => rfl); (case hg => rfl); (case hr => first | (go_simp; done) | (go_simp; rfl)); intro E hE w2 h2 hb2; have HE2 := Aside0.mk h2; have HB2 := Aside0.mk hb2; have HEG := Aside0.mk (show w1.heap.size ≤ E by omega); clear hE h2 hb2)
    | ((with_reducible refine gate_ (.store 39 (.tmp 7) (.tmp 15)) rfl ?_); refine store_blk rfl 39 (.tmp 7) (.tmp 15) rfl E (ten z39 (.slice none 0 0) (.slice none 0 0)) (ten x (.slice A1 n1 c1) (.slice A8 n8 c8)) rfl rfl HE2.out rfl size39 (ten_one _ rfl rfl) ?_; intro w3 ha hka hba; have hbb := hba w1 HEG.out HB2.out; have HB3 := Aside0.mk (below_step HB1.out hbb); have HW3 := Aside0.mk (wz_of ha (Kd.R_below HR1.out.1 hbb) (Kd.R_below HR1.out.2 hbb)); clear ha hka hba hbb)
    | (go_at_call 43; (with_reducible refine (rget_calls (HRF.out.then_ HB3.out) (by have := HS16.out; omega) s).mono ?_); unfold RGet; rw [← HX.out.1, ← HX.out.2.1, ← HX.out.2.2.1, ← HX.out.2.2.2]; rintro e w4 ⟨B1, d1, B8, d8, rfl, hr, hb⟩; have HB4 := Aside0.mk (below_step HB3.out hb); have HW4 := Aside0.mk (HW3.out.sane (sane_below hb)); have HR4 := Aside0.mk hr; clear hr hb)
    | ((with_reducible refine gate_dst (N := 9) rfl ?_); refine box_event ?hg (N := 9) ?hd (cs := (ten z39 (.slice none 0 0) (.slice none 0 0)).toArray) (t := 39) ?hr ?_; (case hd => rfl); (case hg => rfl); (case hr => first | (go_simp; done) | (go_simp; rfl)); intro F hF w5 h2 hb2; have HF5 := Aside0.mk h2; have HB5 := Aside0.mk hb2; have HFG := Aside0.mk (show w4.heap.size ≤ F by omega); clear hF h2 hb2)
    | ((with_reducible refine gate_ (.store 39 (.tmp 9) (.tmp 21)) rfl ?_); refine store_blk rfl 39 (.tmp 9) (.tmp 21) rfl F (ten z39 (.slice none 0 0) (.slice none 0 0)) (ten x (.slice B1 n1 d1) (.slice B8 n8 d8)) rfl rfl HF5.out rfl size39 (ten_one _ rfl rfl) ?_; intro w6 ha hka hba; have hbb := hba w4 HFG.out HB5.out; have HB6 := Aside0.mk (below_step HB4.out hbb); have HW6 := Aside0.mk (HW4.out.sane (sane_below hbb)); have HV6 := Aside0.mk (wz_of ha (Kd.R_below HR4.out.1 hbb) (Kd.R_below HR4.out.2 hbb)); clear ha hka hba hbb)
    | (go_at_call 21; (with_reducible refine (names3 (HTB.out.below HB6.out)).mono ?_); rw [← HNN.out.1]; rintro e w7 ⟨N1, m1, rfl, hC, hb⟩; have HC7 := Aside0.mk hC; have HB7 := Aside0.mk (below_step HB6.out hb); have HW7 := Aside0.mk (HW6.out.sane (sane_below hb)); have HV7 := Aside0.mk (HV6.out.sane (sane_below hb)); clear hC hb)
    | (go_at_call 49; (with_reducible refine (rnames_calls (HRF.out.then_ HB7.out) (by have := HS16.out; omega)).mono ?_); rw [← HNN.out.1]; rintro e w8 ⟨N2, m2, rfl, hC, hb⟩; have HC8 := Aside0.mk hC; have HD8 := Aside0.mk (Kd.C_below HC7.out.1 hb); have HB8 := Aside0.mk (below_step HB7.out hb); have HW8 := Aside0.mk (HW7.out.sane (sane_below hb)); have HV8 := Aside0.mk (HV7.out.sane (sane_below hb)); clear hC hb)
    | (go_at_call 30; have hmark := HCf.out; (with_reducible refine (words_same HDf.out HNN.out.2.2.1 HCe.out.2 HCf.out.1 HCf.out.2 HNN.out.2.2.2.2).mono ?_); rintro e wg ⟨rfl, hb⟩; have HBg := Aside0.mk (below_step HBf.out hb); clear hb hmark)
    | (go_at_call 30; (with_reducible refine (words_same HD8.out HNN.out.1 HC7.out.2 HC8.out.1 HC8.out.2 HNN.out.2.2.2.1).mono ?_); rintro e w9 ⟨rfl, hb⟩; have HB9 := Aside0.mk (below_step HB8.out hb); have HW9 := Aside0.mk (HW8.out.sane (sane_below hb)); have HV9 := Aside0.mk (HV8.out.sane (sane_below hb)); clear hb)
    | (go_at_call 28; (with_reducible refine (keys_calls (HTB.out.below HB9.out)).mono ?_); rw [← HNN.out.2.1]; rintro e wa ⟨K1, p1, rfl, hC, hc, hb⟩; have HCa := Aside0.mk (And.intro hC hc); have HBa := Aside0.mk (below_step HB9.out hb); have HWa := Aside0.mk (HW9.out.sane (sane_below hb)); have HVa := Aside0.mk (HV9.out.sane (sane_below hb)); clear hC hc hb)
    | (go_at_call 51; (with_reducible refine (rkeys_calls (HRF.out.then_ HBa.out) HS16.out HFX.out HSO.out).mono ?_); rw [← HNN.out.2.1]; rintro e wb ⟨K2, p2, rfl, hC, hb⟩; have HCb := Aside0.mk hC; have HDb := Aside0.mk (Kd.C_below HCa.out.1 hb); have HBb := Aside0.mk (below_step HBa.out hb); have HWb := Aside0.mk (HWa.out.sane (sane_below hb)); have HVb := Aside0.mk (HVa.out.sane (sane_below hb)); clear hC hb)
    | (go_at_call 50; (with_reducible refine (samekeys_calls HDb.out HNN.out.2.1 HCa.out.2 HCb.out.1 HCb.out.2).mono ?_); rintro e wc ⟨rfl, hb⟩; have HBc := Aside0.mk (below_step HBb.out hb); have HWc := Aside0.mk (HWb.out.sane (sane_below hb)); have HVc := Aside0.mk (HVb.out.sane (sane_below hb)); obtain ⟨a0, a1, a2, a3, a4, a5, a6, a7, a8⟩ := cellsT HWc.out.1; obtain ⟨b0', b1, b2, b3, b4, b5, b6, b7, b8⟩ := cellsT HVc.out.1; clear hb)
    | (go_at_call 17; (with_reducible refine (same_lit HX.out.2.1 HX.out.2.2.1 HXS.out.1 HXS.out.2 HWc.out HVc.out).mono ?_); rintro e wd ⟨rfl, hb⟩; have HBd := Aside0.mk (below_step HBc.out hb); clear hb a0 a1 a2 a3 a4 a5 a6 a7 a8 b0' b1 b2 b3 b4 b5 b6 b7 b8)
    | (go_at_call 19; (with_reducible refine (access_calls (HTB.out.below HBd.out) s).mono ?_); rw [← HNN.out.2.2.1]; rintro e we ⟨P1, q1, rfl, hC, hc, hb⟩; have HCe := Aside0.mk (And.intro hC hc); have HBe := Aside0.mk (below_step HBd.out hb); clear hC hc hb)
    | (go_at_call 52; (with_reducible refine (raccess_calls (HRF.out.then_ HBe.out) (by have := HS16.out; omega) HFX.out HSO.out s).mono ?_); rw [← HNN.out.2.2.1]; rintro e wf ⟨P2, q2, rfl, hC, hb⟩; have HCf := Aside0.mk hC; have HDf := Aside0.mk (Kd.C_below HCe.out.1 hb); have HBf := Aside0.mk (below_step HBe.out hb); clear hC hb))
  go_ret
  exact ⟨rfl, HBg.out⟩
end Go.Proofs.Yticoaaddhhiglaa.T
/- The laws by hand: TenantDoes (mkT32.py). -/
namespace Go.Proofs.Yticoaaddhhiglaa.T
open Go.RowKit Go.Proofs.Yticoaaddhhiglaa.Q Go.Proofs.YticoaaddhhiglaaW.PrintWords Go.Proofs.YticoaaddhhiglaaW.PrintLast Go.Proofs.YticoaaddhhiglaaW.PrintMore
set_option linter.unusedVariables false
set_option linter.unusedSimpArgs false
/-- The program's table and the document's, side by side. -/
structure Half (w : World) (D M g : Nat) (st1 st : St) (W : World) : Prop where
  lv : LvW w D M st1 W
  rf : RefT w g st W
  few : st.length ≤ 16
  fine : ∀ x ∈ st, Fine x
  sorted : Sorted st
  uk : Uniq st
  ur : UniqR st
def Two (w : World) (D M g : Nat) (st : St) (W : World) : Prop := Half w D M g st st W
theorem Half.then_ {w W W' : World} {D M g : Nat} {st1 st : St} (h : Half w D M g st1 st W) (hb : Below W.heap.size W W') : Half w D M g st1 st W' := ⟨h.lv.then_ hb, h.rf.then_ hb, h.few, h.fine, h.sorted, h.uk, h.ur⟩
theorem Two.then_ {w W W' : World} {D M g : Nat} {st : St} (h : Two w D M g st W) (hb : Below W.heap.size W W') : Two w D M g st W' := Half.then_ h hb
theorem Two.lv {w W : World} {D M g : Nat} {st : St} (h : Two w D M g st W) : LvW w D M st W := Half.lv h
theorem Two.rf {w W : World} {D M g : Nat} {st : St} (h : Two w D M g st W) : RefT w g st W := Half.rf h
theorem Two.few {w W : World} {D M g : Nat} {st : St} (h : Two w D M g st W) : st.length ≤ 16 := Half.few h
theorem Two.fine {w W : World} {D M g : Nat} {st : St} (h : Two w D M g st W) : ∀ x ∈ st, Fine x := Half.fine h
theorem Two.below {w W : World} {D M g : Nat} {st : St} (h : Two w D M g st W) : Below w.heap.size w W := h.lv.below
theorem nil_uniq : Uniq [] ∧ UniqR [] ∧ Sorted [] := ⟨fun x h => (by cases h), fun x h => (by cases h), List.Pairwise.nil⟩
/-- Two tables that were made. -/
theorem Two.made {w W W' : World} {D M g : Nat} (h : LvW w D M [] W) (hg : W.heap.size ≤ g) (hb : Below W.heap.size W W') (hc : W'.heap[g]? = some (.cells #[.slice none 0 0] 52 (0, 0))) : Two w D M g [] W' :=
  ⟨h.then_ hb, ⟨⟨none, 0, hc, Kd.R_nil _ _ _ _ _⟩, below_step h.below hb, Nat.le_trans h.below.size hg⟩, by simp, fun x h => (by cases h), nil_uniq.2.2, nil_uniq.1, nil_uniq.2.1⟩
theorem alloc27 (f : Operand → Value) (o : Oper) (W : World) (ho : o.op = .alloc 27) : (execOp f o).run Try.prog W = .ok (.value (.pointer (some ⟨W.heap.size, 0, none⟩))) (W.alloc (.cells (chg z27).toArray 27 (0, 0))) := by
  have h : (Instr.alloc 27 true (.tuple #[])).run Try.prog W = .ok (.pointer (some ⟨W.heap.size, 0, none⟩)) (W.alloc (.cells (chg z27).toArray 27 (0, 0))) := by kernel_rfl
  simp [execOp, ho, h, Result.andThen]
/-- The program's Do. -/
theorem Two.do1 {w W : World} {D M g : Nat} {st st' : St} (h : Two w D M g st W) {c : S27} {er : Int} (hr : doT st c = (er, st')) : Calls Try.prog 14 #[.pointer (some ⟨D, 0, none⟩), .agg (chg c).toArray] W fun e W' => e = .returned (.int .i64 er) ∧ Half w D M g st' st W' ∧ Sane W W' :=
  (h.lv.doS hr).mono (fun e W' ⟨h1, h2, h3⟩ => ⟨h1, ⟨h2, h.rf.sane h3 h2.below, h.few, h.fine, Half.sorted h, Half.uk h, Half.ur h⟩, h3⟩)
theorem RefT.mine {w W : World} {g : Nat} {st : St} (h : RefT w g st W) : ∀ k, (k = g ∨ some k = rowOf W g) → ∃ cells q, W.heap[k]? = some (Obj.cells cells q (0, 0)) ∧ (q = 52 ∨ q = 39) := by
  obtain ⟨A, c, h1, h2⟩ := h.row
  intro k hk
  rcases hk with rfl | hk
  · exact ⟨_, _, h1, .inl rfl⟩
  · have hrow : rowOf W g = (Value.slice A st.length c).ownBlock := by unfold rowOf; rw [R_cells h1]
    obtain ⟨cells, hc⟩ := Kd.R_typed h2 k (hrow ▸ hk.symm)
    exact ⟨_, _, hc, .inr rfl⟩
/-- The document's Do. -/
theorem Half.do2 {w W : World} {D M g : Nat} {st st' : St} (h : Half w D M g st' st W) {c : S27} {er : Int} (hr : doT st c = (er, st')) : Calls Try.prog 24 #[.pointer (some ⟨g, 0, none⟩), .agg (chg c).toArray] W fun e W' => e = .returned (.int .i64 er) ∧ Two w D M g st' W' ∧ (∀ (k : Nat) (q : TypeId) (cells : Array Value), q ≠ 52 → q ≠ 39 → W.heap[k]? = some (Obj.cells cells q (0, 0)) → W'.heap[k]? = W.heap[k]?) :=
  (rdo_calls h.rf h.few h.fine h.sorted h.uk h.ur c).mono (fun e W' ⟨h1, h2, h3⟩ => by
    rw [hr] at h1 h2
    have hk : ∀ (k : Nat) (q : TypeId) (cells : Array Value), q ≠ 52 → q ≠ 39 → W.heap[k]? = some (Obj.cells cells q (0, 0)) → W'.heap[k]? = W.heap[k]? := fun k q cells q1 q2 hc => h3.block k (heap_lt hc) (fun hm => by
      obtain ⟨cs, q', hc', ho⟩ := h.rf.mine k hm
      rw [hc] at hc'
      injection hc' with hc'
      injection hc' with _ e
      subst e
      rcases ho with ho | ho
      · exact q1 ho
      · exact q2 ho)
    have ht : TabG W' D M st' := h.lv.tab.off (fun k ma clk hc => h3.block k (heap_lt hc) (fun hm => by
      obtain ⟨cs, q', hc', ho⟩ := h.rf.mine k hm
      rw [hc] at hc'
      cases hc')) (fun k q cells hq hc => hk k q cells (by rcases hq with rfl | rfl | rfl <;> decide) (by rcases hq with rfl | rfl | rfl <;> decide) hc)
    have hu := uniq_do (c := c) h.uk
    have hv := uniqR_do (c := c) h.ur
    rw [hr] at hu hv
    exact ⟨h1, ⟨⟨ht, h2.below, h.lv.hD, h.lv.hM⟩, h2, ht.few16, ht.fine_, ht.sorted, hu, hv⟩, hk⟩)
def does.T11 : Bool × List (List Nat × List Nat) := (true, [([], []), ([], []), ([0, 1], [0, 1]), ([2], [2]), ([3], [3]), ([3], [3]), ([4, 5, 3], [3, 4, 5]), ([3, 6], [3, 6]), ([7, 3], [7]), ([8], [8]), ([8], [8]), ([9, 10, 8, 8], [8, 9, 10]), ([8], [8]), ([8], [8]), ([12, 13, 11, 8], [8, 12, 13]), ([11, 14, 8], [8, 11, 14]), ([8, 15], [8, 15]), ([16, 14], [16]), ([17], [17]), ([17], [17]), ([17], [17]), ([20, 17], [17, 20]), ([18, 19, 21, 17, 17], [17, 18, 19, 21]), ([22, 17], [17, 22]), ([17, 23], [17, 23]), ([24, 22], [24]), ([25], [25]), ([25], [25]), ([25], [25]), ([28, 25], [25, 28]), ([26, 27, 29, 25, 25], [25, 26, 27, 29]), ([30, 25], [25, 30]), ([25, 31], [25, 31]), ([32, 30], [32]), ([33], [33]), ([33], [33]), ([35, 33], [33, 35]), ([33], [33]), ([37, 33], [33, 37]), ([34, 36, 38, 33, 33], [33, 34, 36, 38]), ([33], [33]), ([33], [33]), ([41, 33], [33, 41]), ([33], [33]), ([43, 33], [33, 43]), ([40, 42, 44, 39, 33], [33, 40, 42, 44]), ([39, 45, 33], [33, 39, 45]), ([33, 46], [33, 46])])
end Go.Proofs.Yticoaaddhhiglaa.T
