import Derived.Test.YticoaaddhhiglaaT3
/- The table of tenants by hand: what it is in memory; New, is, Get. -/
namespace Go.Proofs.Yticoaaddhhiglaa.T
open Go.RowKit Go.Proofs.Yticoaaddhhiglaa.Q Go.Proofs.YticoaaddhhiglaaW.PrintWords Go.Proofs.YticoaaddhhiglaaW.PrintLast Go.Proofs.YticoaaddhhiglaaW.PrintMore
set_option linter.unusedVariables false
set_option linter.unusedSimpArgs false
/-- Cells stand as they were, wherever cells stood. -/
def Sane (w w' : World) : Prop := ∀ (k : Nat) (cs : Array Value) (t : TypeId) (fz : Nat × Nat), w.heap[k]? = some (Obj.cells cs t fz) → w'.heap[k]? = w.heap[k]?
theorem sane_cell {w w' : World} (h : Sane w w') {p : Addr} {u : Value} (hc : w.cell? p = some u) : w'.cell? p = some u := by
  obtain ⟨b, o, fz⟩ := p
  have : ∃ cs t f, w.heap[b]? = some (.cells cs t f) := by
    unfold World.cell? at hc
    split at hc
    · exact ⟨_, _, _, by assumption⟩
    · cases hc
  obtain ⟨cs, t, f, hb⟩ := this
  rw [← hc]
  exact World.cell?_of_block (h b cs t f hb)
theorem sane_below {w w' : World} (h : Below w.heap.size w w') : Sane w w' := fun k cs t fz hk => h.block k (heap_lt hk)
theorem sane_C23 {w w' : World} (h : Sane w w') {A : Option Addr} {n : Nat} {xs : List S23} (hC : k23.C w A n xs) : k23.C w' A n xs := by
  obtain ⟨h1, h2, h3⟩ := hC
  refine ⟨h1, h2, fun hn => ?_⟩
  obtain ⟨ad, hA, hc⟩ := h3 hn
  refine ⟨ad, hA, fun j p hj => ?_⟩
  obtain ⟨c, hl, hk, hcell⟩ := hc j p hj
  refine ⟨c, hl, ?_, fun i u hu => sane_cell h (hcell i u hu)⟩
  obtain rfl := k23_open hk
  exact k23_mk w' p
theorem sane_CS {w w' : World} (h : Sane w w') {A : Option Addr} {n : Nat} {xs : List ByteArray} (hC : Kd.string.C w A n xs) : Kd.string.C w' A n xs := by
  obtain ⟨h1, h2, h3⟩ := hC
  refine ⟨h1, h2, fun hn => ?_⟩
  obtain ⟨ad, hA, hc⟩ := h3 hn
  refine ⟨ad, hA, fun j p hj => ?_⟩
  obtain ⟨c, hl, hk, hcell⟩ := hc j p hj
  exact ⟨c, hl, hk, fun i u hu => sane_cell h (hcell i u hu)⟩
/-- A value that is a tenant. -/
def Ten (w : World) (v : Value) (x : S39) : Prop := ∃ A1 c1 A8 c8, v = .agg (ten x (.slice A1 x.f1.length c1) (.slice A8 x.f5.length c8)).toArray ∧ k23.C w A1 x.f1.length x.f1 ∧ x.f1.length ≤ c1 ∧ Kd.string.C w A8 x.f5.length x.f5 ∧ x.f5.length ≤ c8
theorem Ten.sane {w w' : World} {v : Value} {x : S39} (h : Ten w v x) (hs : Sane w w') : Ten w' v x := by
  obtain ⟨A1, c1, A8, c8, h1, h2, h3, h4, h5⟩ := h
  exact ⟨A1, c1, A8, c8, h1, sane_C23 hs h2, h3, sane_CS hs h4, h5⟩
/-- A tenant within its limits. -/
structure Fine (x : S39) : Prop where
  keys : x.f1.length ≤ 4
  readers : x.f5.length ≤ 8
  queue : 1 ≤ x.f3 ∧ x.f3 ≤ 64
  ring : 3 ≤ x.f4 ∧ x.f4 ≤ 16
  series : x.f2.f2 ≤ 4096
  rate : 0 ≤ x.f2.f0
/-- What the map holds is a list of tenants by rising names. -/
structure TabR (w : World) (G : ByteArray → Option Value) (st : St) : Prop where
  none_ : ∀ s, G s = none ↔ look st s = none
  some_ : ∀ s v, G s = some v → ∃ x, look st s = some x ∧ Ten w v x
  sorted : Sorted st
  fine : ∀ x ∈ st, Fine x
  few : st.length ≤ 16
theorem TabR.at_ {w : World} {G : ByteArray → Option Value} {st : St} (h : TabR w G st) (s : ByteArray) : (G s = none ∧ look st s = none) ∨ ∃ v x, G s = some v ∧ look st s = some x ∧ Ten w v x := by
  cases hG : G s with
  | none => exact .inl ⟨rfl, (h.none_ s).1 hG⟩
  | some v =>
    obtain ⟨x, h1, h2⟩ := h.some_ s v hG
    exact .inr ⟨v, x, rfl, h1, h2⟩
theorem TabR.sane {w w' : World} {G : ByteArray → Option Value} {st : St} (h : TabR w G st) (hs : Sane w w') : TabR w' G st :=
  ⟨h.none_, fun s v hG => by
    obtain ⟨x, h1, h2⟩ := h.some_ s v hG
    exact ⟨x, h1, h2.sane hs⟩, h.sorted, h.fine, h.few⟩
/-- The table of block D, its map block M. -/
structure TabG (w : World) (D M : Nat) (st : St) : Prop where
  blk : w.heap[D]? = some (.cells #[.bool true, .map (some M)] 60 (0, 0))
  ex : ∃ G, MapF w M G ∧ TabR w G st
theorem TabG.below {w w' : World} {D M : Nat} {st : St} (h : TabG w D M st) (hb : Below w.heap.size w w') : TabG w' D M st := by
  obtain ⟨G, h1, h2⟩ := h.ex
  exact ⟨(hb.block D (heap_lt h.blk)).trans h.blk, G, h1.move (hb.block M h1.lt), h2.sane (sane_below hb)⟩
theorem TabG.cells {w : World} {D M : Nat} {st : St} (h : TabG w D M st) : w.cell? ⟨D, 0, none⟩ = some (.bool true) ∧ w.cell? ⟨D, 1, none⟩ = some (.map (some M)) := ⟨(blk_cell h.blk 0).trans rfl, (blk_cell h.blk 1).trans rfl⟩
theorem zero39 (w : World) : (zeroValue 39).run Try.prog w = .ok (.agg (ten z39 (.slice none 0 0) (.slice none 0 0)).toArray) w := by kernel_rfl
/-- What is looked up. -/
theorem TabG.look2 {w : World} {D M : Nat} {st : St} (h : TabG w D M st) (s : ByteArray) :
    (look st s = none ∧ (Instr.lookup 58 (.map (some M)) (.string s) true).run Try.prog w = .ok (.tuple #[.agg (ten z39 (.slice none 0 0) (.slice none 0 0)).toArray, .bool false]) w ∧ (Instr.lookup 58 (.map (some M)) (.string s) false).run Try.prog w = .ok (.agg (ten z39 (.slice none 0 0) (.slice none 0 0)).toArray) w) ∨
    ∃ x A1 c1 A8 c8, look st s = some x ∧ (Instr.lookup 58 (.map (some M)) (.string s) true).run Try.prog w = .ok (.tuple #[.agg (ten x (.slice A1 x.f1.length c1) (.slice A8 x.f5.length c8)).toArray, .bool true]) w ∧ (Instr.lookup 58 (.map (some M)) (.string s) false).run Try.prog w = .ok (.agg (ten x (.slice A1 x.f1.length c1) (.slice A8 x.f5.length c8)).toArray) w ∧ k23.C w A1 x.f1.length x.f1 ∧ x.f1.length ≤ c1 ∧ Kd.string.C w A8 x.f5.length x.f5 ∧ x.f5.length ≤ c8 := by
  obtain ⟨G, h1, h2⟩ := h.ex
  have hl2 := MapF.look2 (P := Try.prog) Try.underlying58 Try.underlying9 (zero39 w) h1 s
  have hl1 := MapF.look (P := Try.prog) Try.underlying58 Try.underlying9 (zero39 w) h1 s
  rcases h2.at_ s with ⟨hG, hl⟩ | ⟨v, x, hG, hl, A1, c1, A8, c8, rfl, e1, e2, e3, e4⟩
  · rw [hG] at hl1 hl2
    exact .inl ⟨hl, hl2, hl1⟩
  · rw [hG] at hl1 hl2
    exact .inr ⟨x, A1, c1, A8, c8, hl, hl2, hl1, e1, e2, e3, e4⟩
theorem look_fine {w : World} {D M : Nat} {st : St} (h : TabG w D M st) {s : ByteArray} {x : S39} (hl : look st s = some x) : Fine x := by
  obtain ⟨G, h1, h2⟩ := h.ex
  exact h2.fine x (look_mem hl).1
theorem is_calls {w : World} {D M : Nat} {st : St} (h : TabG w D M st) : Calls Try.prog 38 #[.pointer (some ⟨D, 0, none⟩)] w fun e w' => e = .returned (.bool true) ∧ w' = w := by
  obtain ⟨c0, _⟩ := h.cells
  clear h
  go_enter Try.func38, Try.ntmps38
  go_wp2
  go_ret
  exact ⟨rfl, rfl⟩
theorem blk2 (w : World) (a b : Obj) : ((w.alloc a).alloc b).heap[w.heap.size + 1]? = some b ∧ ((w.alloc a).alloc b).heap[w.heap.size]? = some a := by
  have hz : (w.alloc a).heap.size = w.heap.size + 1 := by simp
  refine ⟨?_, (heap_alloc_old _ _ (by rw [hz]; omega)).trans (heap_alloc_new w a)⟩
  rw [← hz]
  exact heap_alloc_new _ _
theorem new_calls (w : World) : Calls Try.prog 13 #[] w fun e w' => ∃ D M, e = .returned (.pointer (some ⟨D, 0, none⟩)) ∧ TabG w' D M [] ∧ w.heap.size ≤ D ∧ w.heap.size ≤ M ∧ Below w.heap.size w w' := by
  have hmm := @run_makeMap Try.prog
  go_enter Try.func13, Try.ntmps13
  go_wp2
  go_ret
  refine ⟨w.heap.size + 1, w.heap.size, rfl, ⟨(blk2 w _ _).1, _, (MapF.made w).move (heap_alloc_old _ _ (MapF.made w).lt), ⟨fun s => by simp [look], fun s v h => by (cases h), List.Pairwise.nil, fun x h => (by cases h), by simp⟩⟩, by omega, Nat.le_refl _, below_alloc (below_alloc (Below.refl _ _) _) _⟩
theorem results_ct {fn : Func} {p q : Tmp} {ty : TypeId} (h : fn.results = #[.cell p ty, .tmp q]) (tmps : Array Value) (w : World) (b : Nat) (v : Value) (hp : tmps.getD p undef = .pointer (some ⟨b, 0, none⟩)) (hl : (loadVar ty ⟨b, 0, none⟩).run Try.prog w = .ok v w) : (results fn tmps).run Try.prog w = .ok (.tuple #[v, tmps.getD q undef]) w := by
  have hp' : tmps[p]?.getD undef = .pointer (some ⟨b, 0, none⟩) := by rw [← hp]; simp [Array.getD_eq_getD_getElem?]
  simp [results, h, hp', asAddr, hl]
/-- What Get answers. -/
def GetP (w : World) (st : St) (s : ByteArray) (e : Ending) (w' : World) : Prop :=
  ((look st s = none ∧ e = .returned (.tuple #[.agg (ten z39 (.slice none 0 0) (.slice none 0 0)).toArray, .bool false])) ∨ ∃ x v1 v8, look st s = some x ∧ e = .returned (.tuple #[.agg (ten x v1 v8).toArray, .bool true]) ∧ k23.R 23 w' w.heap.size (fun _ => True) v1 x.f1 ∧ Kd.string.R 9 w' w.heap.size (fun _ => True) v8 x.f5) ∧ Below w.heap.size w w'
theorem nil_one : ∀ v ∈ ten z39 (.slice none 0 0) (.slice none 0 0), v.oneCell' = true := ten_one _ rfl rfl
set_option maxHeartbeats 4000000 in
set_option maxRecDepth 100000 in
theorem get_calls {w : World} {D M : Nat} {st : St} (h : TabG w D M st) (s : ByteArray) : Calls Try.prog 15 #[.pointer (some ⟨D, 0, none⟩), .string s] w (GetP w st s) := by
  have HT := Aside0.mk h
  clear h
  cases hl : look st s with
  | none =>
    have HL := Aside0.mk hl
    clear hl
    go_enter Try.func15, Try.ntmps15
    go_wp2_with (first
      | ((with_reducible refine gate_dst (N := 4) rfl ?_); refine box_event ?hg (N := 4) ?hd (cs := (ten z39 (.slice none 0 0) (.slice none 0 0)).toArray) (t := 39) ?hr ?_; (case hd => rfl); (case hg => rfl); (case hr => first | (go_simp; done) | (go_simp; rfl)); intro E hE w1 h1 hb1; have H1 := Aside0.mk h1; have HB1 := Aside0.mk hb1; have HEG := Aside0.mk (show w.heap.size ≤ E by omega); have HT1 := Aside0.mk (HT.out.below hb1); clear h1 hb1 hE)
      | (go_at_call 38; (with_reducible refine (is_calls HT1.out).mono ?_); rintro e w9 ⟨rfl, h9⟩; subst w9; have c1 := HT1.out.cells.2; have hlk := ((HT1.out.look2 s).resolve_right (fun ⟨x, _, _, _, _, h, _⟩ => by rw [HL.out] at h; cases h)).2.1)
      | ((with_reducible refine gate_dst (N := 6) rfl ?_); refine box_event ?hg (N := 6) ?hd (cs := (ten z39 (.slice none 0 0) (.slice none 0 0)).toArray) (t := 39) ?hr ?_; (case hd => rfl); (case hg => rfl); (case hr => first | (go_simp; done) | (go_simp; rfl)); intro F hF w2 h2 hb2; have H2 := Aside0.mk h2; have HB2 := Aside0.mk (below_step HB1.out hb2); have HFG := Aside0.mk (show w.heap.size ≤ F by have := HB1.out.size; omega); have HEF := Aside0.mk (show E ≠ F from by have := heap_lt H1.out; omega); have H1' := Aside0.mk ((hb2.block E (heap_lt H1.out)).trans H1.out); clear h2 hb2 hF hlk c1)
      | ((with_reducible refine gate_ (.store 39 (.tmp 6) (.tmp 19)) rfl ?_); refine store_blk rfl 39 (.tmp 6) (.tmp 19) rfl F (ten z39 (.slice none 0 0) (.slice none 0 0)) (ten z39 (.slice none 0 0) (.slice none 0 0)) rfl rfl H2.out rfl size39 nil_one ?_; intro w3 h3 hk3 hb3; have HB3 := Aside0.mk (hb3 w HFG.out HB2.out); have H3 := Aside0.mk ((hk3 E HEF.out).trans H1'.out); clear h3 hk3 hb3)
      | ((with_reducible refine gate_ (.store 39 (.tmp 4) (.tmp 23)) rfl ?_); refine store_blk rfl 39 (.tmp 4) (.tmp 23) rfl E (ten z39 (.slice none 0 0) (.slice none 0 0)) (ten z39 (.slice none 0 0) (.slice none 0 0)) rfl rfl H3.out rfl size39 nil_one ?_; intro w4 h4 hk4 hb4; have HB4 := Aside0.mk (hb4 w HEG.out HB3.out); have H4 := Aside0.mk h4; clear h4 hk4 hb4))
    ((try simp only [Exit.inBlock, Exit.then]); refine bodyPost_ret (results_ct rfl _ _ E _ rfl (run_loadVar_mid _ _ _ 39 _ _ (range_blk H4.out) Try.underlying39 rfl size39)) rfl ?_)
    exact ⟨.inl ⟨HL.out, rfl⟩, HB4.out⟩
  | some x =>
    have HL := Aside0.mk hl
    have HFN := Aside0.mk (look_fine HT.out hl)
    clear hl
    go_enter Try.func15, Try.ntmps15
    go_wp2_with (first
      | ((with_reducible refine gate_dst (N := 4) rfl ?_); refine box_event ?hg (N := 4) ?hd (cs := (ten z39 (.slice none 0 0) (.slice none 0 0)).toArray) (t := 39) ?hr ?_; (case hd => rfl); (case hg => rfl); (case hr => first | (go_simp; done) | (go_simp; rfl)); intro E hE w1 h1 hb1; have H1 := Aside0.mk h1; have HB1 := Aside0.mk hb1; have HEG := Aside0.mk (show w.heap.size ≤ E by omega); have HT1 := Aside0.mk (HT.out.below hb1); clear h1 hb1 hE)
      | (go_at_call 38; (with_reducible refine (is_calls HT1.out).mono ?_); rintro e w9 ⟨rfl, h9⟩; subst w9; have c1 := HT1.out.cells.2; obtain ⟨x', A1, c1', A8, c8, hlx, hlk, _, e1, e2, e3, e4⟩ := (HT1.out.look2 s).resolve_left (fun h => by have h := h.1; rw [HL.out] at h; cases h); rw [HL.out] at hlx; injection hlx with hlx; subst hlx; have HC := Aside0.mk (And.intro e1 (And.intro e2 (And.intro e3 e4))); clear e1 e2 e3 e4)
      | ((with_reducible refine gate_dst (N := 6) rfl ?_); refine box_event ?hg (N := 6) ?hd (cs := (ten z39 (.slice none 0 0) (.slice none 0 0)).toArray) (t := 39) ?hr ?_; (case hd => rfl); (case hg => rfl); (case hr => first | (go_simp; done) | (go_simp; rfl)); intro F hF w2 h2 hb2; have H2 := Aside0.mk h2; have HB2 := Aside0.mk (below_step HB1.out hb2); have HFG := Aside0.mk (show w.heap.size ≤ F by have := HB1.out.size; omega); have HFN2 := Aside0.mk (show w1.heap.size ≤ F by omega); have HB12 := Aside0.mk hb2; have HEF := Aside0.mk (show E ≠ F from by have := heap_lt H1.out; omega); have H1' := Aside0.mk ((hb2.block E (heap_lt H1.out)).trans H1.out); clear h2 hb2 hF hlk c1)
      | ((with_reducible refine gate_ (.store 39 (.tmp 6) (.tmp 19)) rfl ?_); refine store_blk rfl 39 (.tmp 6) (.tmp 19) rfl F (ten z39 (.slice none 0 0) (.slice none 0 0)) (ten x (.slice A1 x.f1.length c1') (.slice A8 x.f5.length c8)) rfl rfl H2.out rfl size39 (ten_one _ rfl rfl) ?_; intro w3 h3 hk3 hb3; have HB3 := Aside0.mk (hb3 w HFG.out HB2.out); have HB13 := Aside0.mk (hb3 w1 HFN2.out HB12.out); have H3 := Aside0.mk ((hk3 E HEF.out).trans H1'.out); have H3F := Aside0.mk h3; clear h3 hk3 hb3)
      | ((with_reducible refine gate_ (.load 39 (.tmp 6)) rfl ?_); refine load_blk rfl 39 (.tmp 6) rfl F rfl (ten x (.slice A1 x.f1.length c1') (.slice A8 x.f5.length c8)) H3F.out _ Try.underlying39 rfl size39 ?_)
      | (go_at_call 39; (with_reducible refine (copied_calls x HC.out.2.1 (Kd.C_below HC.out.1 HB13.out) HC.out.2.2.2 (Kd.C_below HC.out.2.2.1 HB13.out) (by have := HFN.out.keys; have := HFN.out.readers; omega)).mono ?_); rintro e w5 ⟨v1, v8, rfl, hr1, hr8, hb⟩; have HR5 := Aside0.mk (And.intro hr1 hr8); have HB5 := Aside0.mk (below_step HB3.out hb); have H5 := Aside0.mk ((hb.block E (heap_lt H3.out)).trans H3.out); have HG5 := Aside0.mk hb.size; clear hr1 hr8 hb)
      | ((with_reducible refine gate_ (.store 39 (.tmp 4) (.tmp 25)) rfl ?_); refine store_blk rfl 39 (.tmp 4) (.tmp 25) rfl E (ten z39 (.slice none 0 0) (.slice none 0 0)) (ten x v1 v8) rfl rfl H5.out rfl size39 (ten_one _ (one_of_R HR5.out.1) (one_of_R HR5.out.2)) ?_; intro w6 h6 hk6 hb6; have HB6 := Aside0.mk (hb6 w HEG.out HB5.out); have H6 := Aside0.mk h6; have HK6 := Aside0.mk hk6; clear h6 hk6 hb6))
    ((try simp only [Exit.inBlock, Exit.then]); refine bodyPost_ret (results_ct rfl _ _ E _ rfl (run_loadVar_mid _ _ _ 39 _ _ (range_blk H6.out) Try.underlying39 rfl size39)) rfl ?_)
    exact ⟨.inr ⟨x, v1, v8, HL.out, rfl, Kd.R_lower (Kd.R_mono (Kd.R_move (Kd.R_types HR5.out.1 H5.out (by decide)) (fun k hk => HK6.out k hk.2)) (fun _ _ => trivial)) HB3.out.size, Kd.R_lower (Kd.R_mono (Kd.R_move (Kd.R_types HR5.out.2 H5.out (by decide)) (fun k hk => HK6.out k hk.2)) (fun _ _ => trivial)) HB3.out.size⟩, HB6.out⟩
end Go.Proofs.Yticoaaddhhiglaa.T
