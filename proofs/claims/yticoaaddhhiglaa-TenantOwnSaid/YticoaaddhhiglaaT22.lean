import Derived.Test.YticoaaddhhiglaaT21
/- The table of tenants by hand: Clone (mkT22.py). -/
namespace Go.Proofs.Yticoaaddhhiglaa.T
open Go.RowKit Go.Proofs.Yticoaaddhhiglaa.Q Go.Proofs.YticoaaddhhiglaaW.PrintWords Go.Proofs.YticoaaddhhiglaaW.PrintLast Go.Proofs.YticoaaddhhiglaaW.PrintMore
set_option linter.unusedVariables false
set_option linter.unusedSimpArgs false
theorem len_of_sub {a b : St} (ha : Sorted a) (h : ∀ y ∈ a, look b y.f0 ≠ none) : a.length ≤ b.length := by
  have h1 : (a.map (·.f0)).Nodup := by
    rw [List.nodup_iff_pairwise_ne, List.pairwise_map]
    exact List.Pairwise.imp (fun h => h.ne) ha
  have := len_le_of_sub (m := b.map (·.f0)) h1 (fun s hs => by
    obtain ⟨y, hy, rfl⟩ := List.mem_map.1 hs
    cases hl : look b y.f0 with
    | none => exact absurd hl (h y hy)
    | some z => exact List.mem_map.2 ⟨z, look_mem hl⟩)
  simpa using this
/-- The tenants of a table that were visited. -/
def Part (st : St) (ds : List ByteArray) (st' : St) : Prop := Sorted st' ∧ ∀ s, look st' s = if s ∈ ds then look st s else none
theorem Part.put {st : St} {ds : List ByteArray} {st' : St} (h : Part st ds st') {x : S39} (hx : look st x.f0 = some x) : Part st (ds ++ [x.f0]) (put st' x) := by
  refine ⟨put_sorted x h.1, fun s => ?_⟩
  rw [look_put x s h.1]
  by_cases e : s = x.f0
  · rw [if_pos e, if_pos (by rw [e]; simp), e, hx]
  · rw [if_neg e, h.2 s]
    by_cases hs : s ∈ ds
    · rw [if_pos hs, if_pos (by simp [hs])]
    · rw [if_neg hs, if_neg (by simp [hs, e])]
theorem Part.len {st : St} {ds : List ByteArray} {st' : St} (h : Part st ds st') : st'.length ≤ st.length := len_of_sub h.1 (fun y hy => by
  have := look_of_mem h.1 hy
  rw [h.2 y.f0] at this
  split at this
  · rw [this]; simp
  · cases this)
theorem Part.all {st : St} (hs : Sorted st) {ds : List ByteArray} {st' : St} (h : Part st ds st') (ha : ∀ s x, look st s = some x → s ∈ ds) : st' = st := by
  refine sorted_ext h.1 hs (fun s => ?_)
  rw [h.2 s]
  by_cases hd : s ∈ ds
  · rw [if_pos hd]
  · rw [if_neg hd]
    cases hl : look st s with
    | none => rfl
    | some x => exact absurd (ha s x hl) hd
def tclone.T7 : Bool × List (List Nat × List Nat) := (true, [([], []), ([0], [0]), ([1], [1]), ([2], [2]), ([], []), ([], []), ([5], [5]), ([3, 4, 6, 6, 0, 1, 2, 3, 4, 5, 6], [3, 4, 6])])
def tclone.B7 : List Nat := [0, 1, 3, 7, 0, 0, 32, 127]
theorem tclone.tab7 : rtab .any (opsOf Try.f20 7) = tclone.T7 := by kernel_rfl
theorem tclone.bits7 : waitsOk tclone.T7.2 tclone.B7 = true := by kernel_rfl
set_option maxHeartbeats 4000000 in
set_option maxRecDepth 100000 in
theorem clone_calls {w : World} {D M : Nat} {st : St} (h : TabG w D M st) : Calls Try.prog 20 #[.pointer (some ⟨D, 0, none⟩)] w fun e w' => ∃ D2 M2, e = .returned (.pointer (some ⟨D2, 0, none⟩)) ∧ LvW w D2 M2 st w' := by
  have HT := Aside0.mk h
  obtain ⟨G, hMF, hTR⟩ := h.ex
  have HTR := Aside0.mk hTR
  have HMF := Aside0.mk hMF
  clear h hMF hTR
  go_enter Try.func20, Try.ntmps20
  go_wp2_with (first
    | (go_at_call 38; (with_reducible refine (is_calls HT.out).mono ?_); rintro e w9 ⟨rfl, h9⟩; subst w9)
    | (go_at_call 13; (with_reducible refine (LvW.made w).mono ?_); rintro e w1 ⟨D2, M2, rfl, h1⟩; have H1 := Aside0.mk h1; have c0 := (HT.out.below h1.below).cells.2; clear h1; obtain ⟨w2, hrg, ⟨cnt, hI⟩, hB2⟩ := MapF.range (P := Try.prog) Try.underlying58 (HMF.out.move (H1.out.below.block M HMF.out.lt)); have HI2 := Aside0.mk hI; have H2 := Aside0.mk (H1.out.then_ hB2); have HSZ := Aside0.mk (And.intro (show M2 < w1.heap.size by obtain ⟨G', h4, _⟩ := H1.out.tab.ex; exact h4.lt) (show M < w1.heap.size from Nat.lt_of_lt_of_le HMF.out.lt H1.out.below.size)); clear hI hB2)
    | (at_range; refine wpList_range_run _ rfl (.tmp 13) 58 rfl _ _ rfl _ hrg ?_))
  try simp only [Act.put, List.setIfInBounds_toArray, List.set_cons_zero, List.set_cons_succ]
  go_loopg [] (cnt + 1) (fun kq wr => ∃ (ds : List ByteArray) (st' : St), Aside0 (kq + ds.length = cnt + 1) ∧ Aside0 (IterF wr w1.heap.size M G ds cnt) ∧ Aside0 (LvW w D2 M2 st' wr) ∧ Aside0 (Part st ds st'))
  case atStart => exact ⟨[], [], ⟨rfl⟩, HI2, H2, ⟨List.Pairwise.nil, fun s => by simp [look]⟩⟩
  case round =>
    obtain ⟨ds, st', HK, HI, HL, HP⟩ := hrel
    cases gk with
    | zero => have h1 := HK.out; have h2 := HI.out.count; omega
    | succ k1 =>
    clear hrg c0
    rcases HI.out.next (P := Try.prog) 0 with ⟨hall, hnx⟩ | ⟨s, v, w3, hGs, hnd, hnx, hI3, hen, q1, q2, q3, q4, q5⟩
    · have hst : st' = st := HP.out.all HTR.out.sorted (fun s x hx => by
        cases hq : G s with
        | none => rw [(HTR.out.none_ s).1 hq] at hx; cases hx
        | some v => exact hall s v hq)
      subst hst
      clear hall
      go_wp2_with (first
        | (at_next; refine wpList_next_run _ rfl (.tmp 14) rfl _ _ rfl _ hnx ?_))
      go_ret
      exact ⟨D2, M2, rfl, HL.out⟩
    · obtain ⟨x, hlx, A1, c1, A8, c8, rfl, g1, l1, g8, l8⟩ := HTR.out.some_ s v hGs
      have hx0 := (look_mem hlx).2
      subst hx0
      have HLX := Aside0.mk hlx
      have HFN := Aside0.mk (look_fine HT.out hlx)
      have H3 := Aside0.mk (show LvW w D2 M2 st' w3 from ⟨by
        obtain ⟨G', h4, h5⟩ := HL.out.tab.ex
        have hr : ∀ k cs t fz, wr.heap[k]? = some (.cells cs t fz) → k ≠ w1.heap.size := fun k cs t fz hk e => by
          obtain ⟨ma, clk, seen, c0, e1, e2, e3, e4, e5, _⟩ := HI.out
          rw [e, e5] at hk
          cases hk
        exact ⟨(q5 D2 (hr D2 _ _ _ HL.out.tab.blk)).trans HL.out.tab.blk, G', h4.move (q5 M2 (by have := HSZ.out.1; omega)), h5.sane (fun k cs t fz hk => q5 k (hr k cs t fz hk))⟩, ⟨q1.trans HL.out.below.os, q2.trans HL.out.below.tape, q3.trans HL.out.below.output, by rw [q4]; exact HL.out.below.size, fun k hk => (q5 k (by have := H1.out.below.size; omega)).trans (HL.out.below.block k hk)⟩, HL.out.hD, HL.out.hM⟩)
      have HI3 := Aside0.mk hI3
      have HC := Aside0.mk (And.intro (And.intro g1 l1) (And.intro g8 l8))
      clear q1 q2 q3 q4 q5 hI3 hnd hGs hlx g1 l1 g8 l8
      go_wp2_with (first
        | (at_next; refine wpList_next_run _ rfl (.tmp 14) rfl _ _ rfl _ hnx ?_)
        | ((with_reducible refine gate_dst (N := 5) rfl ?_); refine box_event ?hg (N := 5) ?hd (cs := (ten z39 (.slice none 0 0) (.slice none 0 0)).toArray) (t := 39) ?hr ?_; (case hd => rfl); (case hg => rfl); (case hr => first | (go_simp; done) | (go_simp; rfl)); intro E hE w4 h4 hb4; have HE4 := Aside0.mk h4; have HEG := Aside0.mk (show w3.heap.size ≤ E by omega); have HB4 := Aside0.mk hb4; clear hE h4 hb4)
        | ((with_reducible refine gate_ (.store 39 (.tmp 5) (.tmp 19)) rfl ?_); refine store_blk rfl 39 (.tmp 5) (.tmp 19) rfl E (ten z39 (.slice none 0 0) (.slice none 0 0)) (ten x (.slice A1 x.f1.length c1) (.slice A8 x.f5.length c8)) rfl rfl HE4.out rfl size39 (ten_one _ rfl rfl) ?_; intro w5 h5 hk5 hb5; have HB5 := Aside0.mk (hb5 w3 HEG.out HB4.out); have H5 := Aside0.mk (H3.out.then_ (hb5 w3 HEG.out HB4.out)); have HE5 := Aside0.mk h5; clear h5 hk5 hb5))
      obtain ⟨e0, e1, e2, e3, e4, e5, e6, e7, e8⟩ := cellsT HE5.out
      have y0 := H5.out.tab.cells.2
      clear hnx hen
      refine start_ (n := 8) (S := fun w' => w'.cell? ⟨D2, 1, none⟩ = some (.map (some M2)) ∧ w'.cell? ⟨E, 0, none⟩ = some (.string x.f0) ∧ w'.cell? ⟨E, 1, none⟩ = some (.slice A1 x.f1.length c1) ∧ w'.cell? ⟨E, 2, none⟩ = some (.int .i64 x.f2.f0) ∧ w'.cell? ⟨E, 3, none⟩ = some (.int .i64 x.f2.f1) ∧ w'.cell? ⟨E, 4, none⟩ = some (.int .i64 x.f2.f2) ∧ w'.cell? ⟨E, 5, none⟩ = some (.int .i64 x.f2.f3) ∧ w'.cell? ⟨E, 6, none⟩ = some (.int .i64 x.f3) ∧ w'.cell? ⟨E, 7, none⟩ = some (.int .i64 x.f4) ∧ w'.cell? ⟨E, 8, none⟩ = some (.slice A8 x.f5.length c8)) (ds := [7]) #[false, false, false, false, false, false, false, false] (by kernel_rfl) rfl rfl ⟨y0, e0, e1, e2, e3, e4, e5, e6, e7, e8⟩ (fun hHeld => ?_); refine with_tabW tclone.tab7 tclone.bits7 (fun HT_ HW_ => ?_)
      refine pure_ (i := 0) (N := some 20) (v := ?_) (a' := ?_) #[true, false, false, false, false, false, false, false] rfl rfl (any_of HT_.out (by kernel_rfl)) (fun _ _ _ h => h) (Or.inl ⟨by rfl, ?_⟩) ?_ ?_
      rotate_left
      · intro w'
        go_simp
        with_reducible rfl
      rotate_left
      · simp only [Act.put, List.setIfInBounds_toArray, List.set_cons_zero, List.set_cons_succ, i64_w, i32_w, xu32_w, xu8_w]
        rfl
      refine pure_ (i := 1) (N := some 21) (v := ?_) (a' := ?_) #[true, true, false, false, false, false, false, false] rfl rfl (any_of HT_.out (by kernel_rfl)) (fun _ _ _ h => h) (Or.inl ⟨by rfl, ?_⟩) ?_ ?_
      rotate_left
      · intro w'
        go_simp
        with_reducible rfl
      rotate_left
      · simp only [Act.put, List.setIfInBounds_toArray, List.set_cons_zero, List.set_cons_succ, i64_w, i32_w, xu32_w, xu8_w]
        rfl
      refine pure_ (i := 2) (N := some 22) (v := ?_) (a' := ?_) #[true, true, true, false, false, false, false, false] rfl rfl (any_of HT_.out (by kernel_rfl)) (fun _ _ _ h => h) (Or.inl ⟨by rfl, ?_⟩) ?_ ?_
      rotate_left
      · intro w'
        go_simp
        with_reducible rfl
      rotate_left
      · simp only [Act.put, List.setIfInBounds_toArray, List.set_cons_zero, List.set_cons_succ, i64_w, i32_w, xu32_w, xu8_w]
        rfl
      refine pure_ (i := 4) (N := some 24) (v := ?_) (a' := ?_) #[true, true, true, false, true, false, false, false] rfl rfl (any_of HT_.out (by kernel_rfl)) (fun _ _ _ h => h) (Or.inl ⟨by rfl, ?_⟩) ?_ ?_
      rotate_left
      · intro w'
        go_simp
        with_reducible rfl
      rotate_left
      · simp only [Act.put, List.setIfInBounds_toArray, List.set_cons_zero, List.set_cons_succ, i64_w, i32_w, xu32_w, xu8_w]
        rfl
      refine take_ (i := 3) (N := some 23) (v := ?_) (a' := ?_) #[true, true, true, true, true, false, false, false] rfl rfl (take_ofW HT_.out HW_.out (by kernel_rfl)) (fun _ _ _ h => h) (Or.inl ⟨by rfl, ?_⟩) hHeld ?_ ?_
      rotate_left
      · rintro w' ⟨s0, s1, s2, s3, s4, s5, s6, s7, s8, s9⟩
        go_simp
        with_reducible rfl
      rotate_left
      · simp only [Act.put, List.setIfInBounds_toArray, List.set_cons_zero, List.set_cons_succ, i64_w, i32_w, xu32_w, xu8_w]
        rfl
      refine take_ (i := 5) (N := some 25) (v := ?_) (a' := ?_) #[true, true, true, true, true, true, false, false] rfl rfl (take_ofW HT_.out HW_.out (by kernel_rfl)) (fun _ _ _ h => h) (Or.inl ⟨by rfl, ?_⟩) hHeld ?_ ?_
      rotate_left
      · rintro w' ⟨s0, s1, s2, s3, s4, s5, s6, s7, s8, s9⟩
        go_simp
        with_reducible rfl
      rotate_left
      · simp only [Act.put, List.setIfInBounds_toArray, List.set_cons_zero, List.set_cons_succ, i64_w, i32_w, xu32_w, xu8_w]
        rfl
      refine one_ (i := 6) (N := some 26) #[true, true, true, true, true, true, true, false] rfl rfl (one_of HT_.out (by kernel_rfl)) (by decide) (fun K hK => ?_)
      refine goes_ Try.func39 (by kernel_rfl) rfl #[.agg (ten x (.slice A1 x.f1.length c1) (.slice A8 x.f5.length c8)).toArray] (by rfl) rfl rfl (by (try simp only [List.map_toArray, List.map_cons, List.map_nil]); first | done | rfl) ?_
      have hbw := Aside0.mk (show Below w.heap.size w w5.drew from below_drew H5.out.below)
      with_reducible refine (copied_calls x HC.out.1.2 (Kd.C_below HC.out.1.1 hbw.out) HC.out.2.2.1 (Kd.C_below HC.out.2.1 hbw.out) (by have := HFN.out.keys; have := HFN.out.readers; omega)).mono ?_
      rintro e w6 ⟨v1, v8, rfl, hr1, hr8, hb6⟩
      refine ⟨_, rfl, ?_⟩
      have hb56 : Below w5.heap.size w5 w6 := below_step (below_drew (Below.refl _ _)) hb6
      have H6 := Aside0.mk (H5.out.then_ hb56)
      have hIb : Below w3.heap.size w3 w6 := below_step HB5.out hb56
      have HI6 := Aside0.mk (HI3.out.move (hIb.block M HI3.out.map.lt) (hIb.block _ HI3.out.lt))
      obtain ⟨w8, hup, ht8, hc8⟩ := H6.out.tab.put (ten_of hr1 hr8) HFN.out (Nat.le_trans (HP.out.put HLX.out).len HT.out.few16)
      have H8 := Aside0.mk (And.intro hup (And.intro (show LvW w D2 M2 (put st' x) w8 from ⟨ht8, Chg.onto H6.out.below (Nat.le_refl _) hc8 (fun k e => by rw [e]; exact H6.out.hM), H6.out.hD, H6.out.hM⟩) (HI6.out.move (hc8.block M HI6.out.map.lt (fun e => by have := H1.out.hM; have := HMF.out.lt; omega)) (hc8.block _ HI6.out.lt (fun e => by have := HSZ.out.1; omega)))))
      refine hK.out _ _ ⟨H6.out.tab.cells.2, (cellsT ((hb56.block E (heap_lt HE5.out)).trans HE5.out))⟩ (fun hHeld => ?_)
      clear hK K hr1 hr8 hb6 hb56 hIb hup ht8 hc8
      refine norm_ (a' := ?_) ?_ ?_
      rotate_left
      · show Act.put _ (some 26) _ = _
        simp only [Act.put, List.setIfInBounds_toArray, List.set_cons_zero, List.set_cons_succ, i64_w, i32_w, xu32_w, xu8_w]
        rfl
      refine last_ (i := 7) (N := none) #[true, true, true, true, true, true, true, true] rfl rfl (one_of HT_.out (by kernel_rfl)) (by decide) (fun K hK => ?_)
      refine mapUpdate_step (by rfl) rfl (.tmp 23) (.tmp 24) (.tmp 26) 58 rfl _ _ _ rfl rfl rfl w8 H8.out.1 ?_
      refine hK.out _ _ ?_
      clear hK K
      refine done_ (done_of HT_.out (by kernel_rfl)) ?_
      clear hHeld HT_ HW_
      go_wp2_with (fail)
      go_roundg k1
      case measure => omega
      case rel => exact ⟨ds ++ [x.f0], put st' x, ⟨by have := HK.out; rw [List.length_append]; simp; omega⟩, ⟨H8.out.2.2⟩, ⟨H8.out.2.1⟩, ⟨HP.out.put HLX.out⟩⟩
end Go.Proofs.Yticoaaddhhiglaa.T
