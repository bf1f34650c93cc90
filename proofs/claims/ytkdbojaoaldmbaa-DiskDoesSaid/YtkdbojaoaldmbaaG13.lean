import Derived.Test.YtkdbojaoaldmbaaGC
/- The disk by hand: Clone. -/
namespace Go.Proofs.Ytkdbojaoaldmbaa.G
open Go.RowKit Go.Proofs.Ytkdbojaoaldmbaa.Q Go.Proofs.YtkdbojaoaldmbaaW.PrintWords Go.Proofs.YtkdbojaoaldmbaaW.PrintLast Go.Proofs.YtkdbojaoaldmbaaW.PrintMore
set_option linter.unusedVariables false
set_option linter.unusedSimpArgs false
open Go.Proofs.Ytkdbojaoaldmbaa.D (wpList_range_run wpList_next_run)
def clone.T3 : Bool × List (List Nat × List Nat) := (true, [([], []), ([], []), ([1], [1]), ([2], [2]), ([3], [3]), ([], []), ([5], [5]), ([6], [6]), ([7], [7]), ([0, 4, 8], [0, 4, 8]), ([9], [9]), ([10, 0, 1, 2, 3, 4, 5, 6, 7, 8, 9, 10], [10])])
def clone.B3 : List Nat := [0, 0, 2, 6, 14, 0, 32, 96, 224, 511, 1023, 2047]
theorem clone.tab3 : rtab .any (opsOf Try.f16 3) = clone.T3 := by kernel_rfl
theorem clone.bits3 : waitsOk clone.T3.2 clone.B3 = true := by kernel_rfl
def clone.T7 : Bool × List (List Nat × List Nat) := (true, [([], []), ([0], [0]), ([1], [1]), ([2], [2]), ([], []), ([], []), ([], []), ([6], [6]), ([7], [7]), ([8], [8]), ([5, 9], [5, 9]), ([], []), ([11], [11]), ([12], [12]), ([13], [13]), ([10, 14], [10, 14]), ([15], [15]), ([3, 4, 16, 10, 0, 1, 2, 3, 4, 5, 6, 7, 8, 9, 10, 11, 12, 13, 14, 15, 16], [3, 4, 16])])
def clone.B7 : List Nat := [0, 1, 3, 7, 0, 0, 0, 64, 192, 448, 992, 0, 2048, 6144, 14336, 32736, 65504, 131071]
theorem clone.tab7 : rtab .any (opsOf Try.f16 7) = clone.T7 := by kernel_rfl
theorem clone.bits7 : waitsOk clone.T7.2 clone.B7 = true := by kernel_rfl
theorem ps2 {w w1 : World} {a b : Addr} {p q : Value} (h : w.cell? a = some p ∧ w.cell? b = some q) (hb : Below w.heap.size w w1) : w1.cell? a = some p ∧ w1.cell? b = some q := ⟨pw_cell_below hb h.1, pw_cell_below hb h.2⟩
theorem ps3 {w w1 : World} {a b c : Addr} {p q r : Value} (h : w.cell? a = some p ∧ w.cell? b = some q ∧ w.cell? c = some r) (hb : Below w.heap.size w w1) : w1.cell? a = some p ∧ w1.cell? b = some q ∧ w1.cell? c = some r := ⟨pw_cell_below hb h.1, pw_cell_below hb h.2.1, pw_cell_below hb h.2.2⟩
section
variable {w w' w1 w2 : World} {D M B : Nat} {room : Int} {dat dat' dat1 : Nat → Prop} {fs fs1 : ByteArray → Option Raw} {st st' st1 st2 : St}
/-- What the loop of Clone keeps. -/
structure CloneInv (w : World) (D2 M2 M it : Nat) (room : Int) (G : ByteArray → Option Value) (st : St) (cnt : Nat) (wr : World) (ds : List ByteArray) (dat2 : Nat → Prop) (fs2 : ByteArray → Option Raw) (stc : St) : Prop where
  iter : IterF wr it M G ds cnt
  below : Below w.heap.size w wr
  cells : wr.heap[D2]? = some (.cells #[.map (some M2), .int .i64 room, .int .i64 (total st)] 57 (0, 0))
  files : FilesG wr M2 w.heap.size dat2 fs2 stc
  have_ : ∀ s, (s ∈ ds → look stc s = look st s) ∧ (s ∉ ds → look stc s = none)
/-- A file more in the copy. -/
theorem clone_step {w w2 w6 : World} {M2 : Nat} {ds : List ByteArray} {dat2 : Nat → Prop} {fs2 : ByteArray → Option Raw} {stc : St} {s : ByteArray} {f : FS} {w4 w5 : World}
    (hst : look st s = some f) (hlow : 0 ≤ f.l) (hhigh : f.l ≤ f.b.length) (hnm : f.n.size ≤ 32) (hfn : f.n = s) (hfiles : FilesG w2 M2 w.heap.size dat2 fs2 stc) (hhave : ∀ t, (t ∈ ds → look stc t = look st t) ∧ (t ∉ ds → look stc t = none))
    {v : Value} (hv : ∃ A c, v = .slice A f.b.length c) (hR : (Kd.int .u8).R 5 w4 w2.heap.size (fun k => w2.heap.size ≤ k) v f.b) (hb4 : Below w2.heap.size w2 w4) (hw5 : w5 = w4.alloc (.cells #[v, .int .i64 f.l] 68)) (hsz : w.heap.size ≤ w2.heap.size)
    (hM : MapF w6 M2 (fun t => if t = s then some (.pointer (some ⟨w4.heap.size, 0, none⟩)) else (fs2 t).map (fun r => .pointer (some ⟨r.F, 0, none⟩)))) (h6 : ∀ k, k ≠ M2 → w6.heap[k]? = w5.heap[k]?) :
    ∃ (dat3 : Nat → Prop) (fs3 : ByteArray → Option Raw) (stc3 : St), FilesG w6 M2 w.heap.size dat3 fs3 stc3 ∧ ∀ t, (t ∈ ds ++ [s] → look stc3 t = look st t) ∧ (t ∉ ds ++ [s] → look stc3 t = none) := by
  have hM2 := hfiles.map.lt
  have hz4 := hb4.size
  have hold : ∀ k, k < w2.heap.size → k ≠ M2 → w6.heap[k]? = w2.heap[k]? := fun k hk hn => by
    rw [h6 k hn, hw5, heap_alloc_old w4 _ (by omega)]
    exact hb4.block k hk
  have hnew : ∀ k, w2.heap.size ≤ k → k < w4.heap.size → w6.heap[k]? = w4.heap[k]? := fun k hk hl => by
    rw [h6 k (by omega), hw5, heap_alloc_old w4 _ hl]
  have hF : w6.heap[w4.heap.size]? = some (.cells #[v, .int .i64 f.l] 68 (0, 0)) := by
    rw [h6 _ (by omega), hw5]; exact heap_alloc_new w4 _
  have hnM : ∀ k, dat2 k → k < w2.heap.size ∧ k ≠ M2 := fun k hk => by
    obtain ⟨cs, fz, e⟩ := hfiles.rows5 k hk
    refine ⟨heap_lt e, fun e2 => ?_⟩
    obtain ⟨ma, clk, hm, _⟩ := hfiles.map
    rw [e2, hm] at e; cases e
  have hFM : ∀ t q, fs2 t = some q → q.F < w2.heap.size ∧ q.F ≠ M2 := fun t q hq => by
    refine ⟨hfiles.lt hq, fun e2 => ?_⟩
    rcases hfiles.at_ t with ⟨h1, _⟩ | ⟨q', g, h1, _, hg⟩
    · rw [h1] at hq; cases hq
    · rw [h1] at hq; cases hq
      obtain ⟨ma, clk, hm, _⟩ := hfiles.map
      have := hg.cells
      rw [e2, hm] at this; cases this
  obtain ⟨A, c, rfl⟩ := hv
  obtain ⟨_, hcap, hC⟩ := Kd.R_reads' hR
  have hty : ∀ ad, A = some ad → w2.heap.size ≤ ad.block ∧ ad.block < w4.heap.size ∧ ∃ cs fz, w4.heap[ad.block]? = some (.cells cs 5 fz) := fun ad e => by
    subst e
    obtain ⟨cs, hcs⟩ := Kd.R_typed hR ad.block rfl
    exact ⟨hR.1 ad.block rfl, heap_lt hcs, cs, _, hcs⟩
  have hfg : FileG w6 w.heap.size (fun k => dat2 k ∨ ∃ ad, A = some ad ∧ k = ad.block) ⟨w4.heap.size, A, c⟩ f := ⟨hF, row_move hC (fun ad e => hnew _ (hty ad e).1 (hty ad e).2.1), hcap, fun ad e => by
    obtain ⟨g1, g2, cs, fz, g3⟩ := hty ad e
    exact ⟨.inr ⟨ad, e, rfl⟩, by omega, cs, fz, (hnew _ g1 g2).trans g3⟩, Nat.le_trans hsz hz4, hlow, hhigh⟩
  have hup := hfiles.toFilesR.upd (w' := w6) (dat' := fun k => dat2 k ∨ ∃ ad, A = some ad ∧ k = ad.block) ⟨w4.heap.size, A, c⟩ f hnm hfg (fun t q _ hq => ⟨hold _ (hFM t q hq).1 (hFM t q hq).2, fun e => by have := (hFM t q hq).1; have e' : q.F = w4.heap.size := e; omega⟩) (fun k hk => ⟨.inl hk, hold k (hnM k hk).1 (hnM k hk).2⟩) (fun k hk => by
    rcases hk with hk | ⟨ad, e, rfl⟩
    · obtain ⟨cs, fz, e⟩ := hfiles.rows5 k hk
      exact ⟨cs, fz, (hold k (hnM k hk).1 (hnM k hk).2).trans e⟩
    · obtain ⟨g1, g2, cs, fz, g3⟩ := hty ad e
      exact ⟨cs, fz, (hnew _ g1 g2).trans g3⟩)
  refine ⟨_, _, _, ⟨hup, ?_, hfiles.baseM⟩, fun t => ?_⟩
  · have hG : (fun t => ((fun t => if t = f.n then some (⟨w4.heap.size, A, c⟩ : Raw) else fs2 t) t).map (fun r => Value.pointer (some ⟨r.F, 0, none⟩))) = (fun t => if t = s then some (.pointer (some ⟨w4.heap.size, 0, none⟩)) else (fs2 t).map (fun r => Value.pointer (some ⟨r.F, 0, none⟩))) := by
      funext t
      dsimp only
      rw [hfn]
      by_cases ht : t = s
      · rw [if_pos ht, if_pos ht]; rfl
      · rw [if_neg ht, if_neg ht]
    rw [hG]
    exact hM
  · rw [look_put f t hfiles.sorted, hfn]
    constructor
    · intro ht
      by_cases h : t = s
      · rw [if_pos h, h, hst]
      · rw [if_neg h]
        refine (hhave t).1 ?_
        rcases List.mem_append.1 ht with h1 | h1
        · exact h1
        · exact absurd (by simpa using h1) h
    · intro ht
      rw [if_neg (fun e => ht (by rw [e]; simp))]
      exact (hhave t).2 (fun e => ht (List.mem_append.2 (.inl e)))
/-- Another disk of the same files, of blocks of its own. -/
def CloneG (w : World) (room : Int) (st : St) (e : Ending) (w' : World) : Prop := ∃ (D2 M2 : Nat) (dat2 : Nat → Prop) (fs2 : ByteArray → Option Raw), e = .returned (.pointer (some ⟨D2, 0, none⟩)) ∧ DiskG w' D2 M2 room w.heap.size dat2 fs2 st ∧ Below w.heap.size w w'
set_option maxHeartbeats 2000000 in
set_option maxRecDepth 100000 in
theorem clone_calls (h : DiskG w D M room B dat fs st) : Calls Try.prog 16 #[.pointer (some ⟨D, 0, none⟩)] w (CloneG w room st) := by
  have c0 := h.cell.1
  have HD := Aside0.mk h
  have hmm := @run_makeMap Try.prog
  clear h
  go_enter Try.func16, Try.ntmps16
  go_wp2_with (first
    | (go_at_call 30; (with_reducible refine (ok_calls D M _ c0).mono ?_); rintro e w9 ⟨rfl, h9⟩; subst w9))
  obtain ⟨wm, hwm⟩ : ∃ wm : World, wm = w.drew.alloc (.map #[] 0) := ⟨_, rfl⟩
  obtain ⟨wb, hwb⟩ : ∃ wb : World, wb = wm.alloc (.cells #[.map (some w.heap.size), .int .i64 room, .int .i64 (total st)] 57) := ⟨_, rfl⟩
  have hbm : Below w.heap.size w wm := by rw [hwm]; exact below_alloc (below_drew (Below.refl _ _)) _
  have hbb : Below w.heap.size w wb := by rw [hwb]; exact below_alloc hbm _
  have HW := Aside0.mk (And.intro hwm (And.intro hwb (And.intro hbm hbb)))
  refine start_ (n := 12) (S := fun w' => w'.cell? ⟨D, 1, none⟩ = some (.int .i64 room) ∧ w'.cell? ⟨D, 2, none⟩ = some (.int .i64 (total st))) (ds := []) #[false, false, false, false, false, false, false, false, false, false, false, false] (by kernel_rfl) rfl rfl ⟨HD.out.cell.2.1, HD.out.cell.2.2.1⟩ (fun hHeld => ?_); refine with_tabW clone.tab3 clone.bits3 (fun HT_ HW_ => ?_)
  refine pure_ (i := 1) (N := some 10) (v := ?_) (a' := ?_) #[false, true, false, false, false, false, false, false, false, false, false, false] rfl rfl (any_of HT_.out (by kernel_rfl)) (fun _ _ _ h => h) (Or.inl ⟨by rfl, ?_⟩) ?_ ?_
  rotate_left
  · intro w'
    go_simp
    with_reducible rfl
  rotate_left
  · simp only [Act.put, List.setIfInBounds_toArray, List.set_cons_zero, List.set_cons_succ, i64_w, i32_w, xu32_w, xu8_w]
    rfl
  refine pure_ (i := 2) (N := some 11) (v := ?_) (a' := ?_) #[false, true, true, false, false, false, false, false, false, false, false, false] rfl rfl (any_of HT_.out (by kernel_rfl)) (fun _ _ _ h => h) (Or.inl ⟨by rfl, ?_⟩) ?_ ?_
  rotate_left
  · intro w'
    go_simp
    with_reducible rfl
  rotate_left
  · simp only [Act.put, List.setIfInBounds_toArray, List.set_cons_zero, List.set_cons_succ, i64_w, i32_w, xu32_w, xu8_w]
    rfl
  refine pure_ (i := 3) (N := some 12) (v := ?_) (a' := ?_) #[false, true, true, true, false, false, false, false, false, false, false, false] rfl rfl (any_of HT_.out (by kernel_rfl)) (fun _ _ _ h => h) (Or.inl ⟨by rfl, ?_⟩) ?_ ?_
  rotate_left
  · intro w'
    go_simp
    with_reducible rfl
  rotate_left
  · simp only [Act.put, List.setIfInBounds_toArray, List.set_cons_zero, List.set_cons_succ, i64_w, i32_w, xu32_w, xu8_w]
    rfl
  refine pure_ (i := 5) (N := some 14) (v := ?_) (a' := ?_) #[false, true, true, true, false, true, false, false, false, false, false, false] rfl rfl (any_of HT_.out (by kernel_rfl)) (fun _ _ _ h => h) (Or.inl ⟨by rfl, ?_⟩) ?_ ?_
  rotate_left
  · intro w'
    go_simp
    with_reducible rfl
  rotate_left
  · simp only [Act.put, List.setIfInBounds_toArray, List.set_cons_zero, List.set_cons_succ, i64_w, i32_w, xu32_w, xu8_w]
    rfl
  refine pure_ (i := 6) (N := some 15) (v := ?_) (a' := ?_) #[false, true, true, true, false, true, true, false, false, false, false, false] rfl rfl (any_of HT_.out (by kernel_rfl)) (fun _ _ _ h => h) (Or.inl ⟨by rfl, ?_⟩) ?_ ?_
  rotate_left
  · intro w'
    go_simp
    with_reducible rfl
  rotate_left
  · simp only [Act.put, List.setIfInBounds_toArray, List.set_cons_zero, List.set_cons_succ, i64_w, i32_w, xu32_w, xu8_w]
    rfl
  refine pure_ (i := 7) (N := some 16) (v := ?_) (a' := ?_) #[false, true, true, true, false, true, true, true, false, false, false, false] rfl rfl (any_of HT_.out (by kernel_rfl)) (fun _ _ _ h => h) (Or.inl ⟨by rfl, ?_⟩) ?_ ?_
  rotate_left
  · intro w'
    go_simp
    with_reducible rfl
  rotate_left
  · simp only [Act.put, List.setIfInBounds_toArray, List.set_cons_zero, List.set_cons_succ, i64_w, i32_w, xu32_w, xu8_w]
    rfl
  refine take_ (i := 4) (N := some 13) (v := ?_) (a' := ?_) #[false, true, true, true, true, true, true, true, false, false, false, false] rfl rfl (take_ofW HT_.out HW_.out (by kernel_rfl)) (fun _ _ _ h => h) (Or.inl ⟨by rfl, ?_⟩) hHeld ?_ ?_
  rotate_left
  · rintro w' ⟨s0, s1⟩
    go_simp
    with_reducible rfl
  rotate_left
  · simp only [Act.put, List.setIfInBounds_toArray, List.set_cons_zero, List.set_cons_succ, i64_w, i32_w, xu32_w, xu8_w]
    rfl
  refine take_ (i := 8) (N := some 17) (v := ?_) (a' := ?_) #[false, true, true, true, true, true, true, true, true, false, false, false] rfl rfl (take_ofW HT_.out HW_.out (by kernel_rfl)) (fun _ _ _ h => h) (Or.inl ⟨by rfl, ?_⟩) hHeld ?_ ?_
  rotate_left
  · rintro w' ⟨s0, s1⟩
    go_simp
    with_reducible rfl
  rotate_left
  · simp only [Act.put, List.setIfInBounds_toArray, List.set_cons_zero, List.set_cons_succ, i64_w, i32_w, xu32_w, xu8_w]
    rfl
  refine one_ (i := 0) (N := some 9) #[true, true, true, true, true, true, true, true, true, false, false, false] rfl rfl (one_of HT_.out (by kernel_rfl)) (by decide) (fun K hK => ?_)
  refine value_ (v := .map (some w.heap.size)) (w1 := wm) (by rfl) rfl (by rw [hwm]; first | (go_simp; done) | (go_simp; rfl)) ?_
  refine hK.out _ _ (ps2 ⟨HD.out.cell.2.1, HD.out.cell.2.2.1⟩ hbm) (fun hHeld => ?_)
  clear hK K
  refine norm_ (a' := ?_) ?_ ?_
  rotate_left
  · show Act.put _ (some 9) _ = _
    simp only [Act.put, List.setIfInBounds_toArray, List.set_cons_zero, List.set_cons_succ, i64_w, i32_w, xu32_w, xu8_w]
    rfl
  refine pure_ (i := 9) (N := some 18) (v := ?_) (a' := ?_) #[true, true, true, true, true, true, true, true, true, true, false, false] rfl rfl (any_of HT_.out (by kernel_rfl)) (fun _ _ _ h => h) (Or.inl ⟨by rfl, ?_⟩) ?_ ?_
  rotate_left
  · intro w'
    go_simp
    with_reducible rfl
  rotate_left
  · simp only [Act.put, List.setIfInBounds_toArray, List.set_cons_zero, List.set_cons_succ, i64_w, i32_w, xu32_w, xu8_w]
    rfl
  refine one_ (i := 10) (N := some 19) #[true, true, true, true, true, true, true, true, true, true, true, false] rfl rfl (one_of HT_.out (by kernel_rfl)) (by decide) (fun K hK => ?_)
  refine value_ (v := .pointer (some ⟨wm.heap.size, 0, none⟩)) (w1 := wb) (by rfl) rfl (by rw [hwb]; first | (go_simp; done) | (go_simp; rfl)) ?_
  refine hK.out _ _ (ps2 ⟨HD.out.cell.2.1, HD.out.cell.2.2.1⟩ hbb) (fun hHeld => ?_)
  clear hK K
  refine norm_ (a' := ?_) ?_ ?_
  rotate_left
  · show Act.put _ (some 19) _ = _
    simp only [Act.put, List.setIfInBounds_toArray, List.set_cons_zero, List.set_cons_succ, i64_w, i32_w, xu32_w, xu8_w]
    rfl
  refine pure_ (i := 11) (N := some 3) (v := ?_) (a' := ?_) #[true, true, true, true, true, true, true, true, true, true, true, true] rfl rfl (any_of HT_.out (by kernel_rfl)) (fun _ _ _ h => h) (Or.inl ⟨by rfl, ?_⟩) ?_ ?_
  rotate_left
  · intro w'
    go_simp
    with_reducible rfl
  rotate_left
  · simp only [Act.put, List.setIfInBounds_toArray, List.set_cons_zero, List.set_cons_succ, i64_w, i32_w, xu32_w, xu8_w]
    rfl
  refine done_ (done_of HT_.out (by kernel_rfl)) ?_
  clear hHeld HT_ HW_
  have hDb : wb.heap[w.heap.size + 1]? = some (.cells #[.map (some w.heap.size), .int .i64 room, .int .i64 (total st)] 57 (0, 0)) := by
    rw [hwb, hwm]; exact (Go.Proofs.Ytkdbojaoaldmbaa.D.blk2 w.drew _ _).1
  have hMb : wb.heap[w.heap.size]? = some (.map #[] 0) := by
    rw [hwb, hwm]; exact (Go.Proofs.Ytkdbojaoaldmbaa.D.blk2 w.drew _ _).2
  have hsb : wb.heap.size = w.heap.size + 2 := by rw [hwb, hwm]; exact (by simp : ((w.heap.push (.map #[] 0)).push (.cells #[.map (some w.heap.size), .int .i64 room, .int .i64 (total st)] 57)).size = w.heap.size + 2)
  have hcb := pw_cell_below hbb c0
  have hI0 : FilesG wb w.heap.size w.heap.size (fun _ => False) (fun _ => none) [] := ⟨⟨fun s => by simp [look], fun s r f h => (by cases h), fun s t r q h => (by cases h), List.Pairwise.nil, fun f h => (by cases h), fun k h => h.elim⟩, ⟨#[], 0, hMb, MapKept.stamped_empty 0, by simp, by simp⟩, Nat.le_refl _⟩
  obtain ⟨w1, hrg, ⟨cnt, hI⟩, hB1⟩ := MapF.range (P := Try.prog) Try.underlying55 (HD.out.files.map.move (hbb.block M HD.out.files.map.lt))
  have hI1 : CloneInv w (w.heap.size + 1) w.heap.size M wb.heap.size room (fun s => (fs s).map (fun r => Value.pointer (some ⟨r.F, 0, none⟩))) st cnt w1 [] (fun _ => False) (fun _ => none) [] := ⟨hI, below_step hbb hB1, (hB1.block _ (by omega)).trans hDb, hI0.move hB1.size (hB1.block _ (by omega)) (fun s r h => (by cases h)) (fun k h => h.elim), fun s => ⟨fun h => by simp at h, fun _ => rfl⟩⟩
  have HI1 := Aside0.mk hI1
  have HSB := Aside0.mk hsb
  clear hwm hwb hbm hDb hMb hsb hI0 hI hB1 hI1
  go_wp2_with (first
    | (at_range; refine wpList_range_run _ rfl (.tmp 23) 55 rfl _ _ rfl _ hrg ?_))
  simp only [Act.put, List.setIfInBounds_toArray, List.set_cons_zero, List.set_cons_succ]
  go_loopg [] (cnt + 1) (fun kq wr => ∃ (ds : List ByteArray) (dat2 : Nat → Prop) (fs2 : ByteArray → Option Raw) (stc : St), Aside0 (kq + ds.length = cnt + 1) ∧ Aside0 (CloneInv w (w.heap.size + 1) w.heap.size M wb.heap.size room (fun s => (fs s).map (fun r => Value.pointer (some ⟨r.F, 0, none⟩))) st cnt wr ds dat2 fs2 stc))
  case atStart => exact ⟨[], _, _, _, ⟨rfl⟩, HI1⟩
  case round =>
    obtain ⟨ds, dat2, fs2, stc, HK, HI⟩ := hrel
    clear hrg HI1 c0 hcb
    cases gk with
    | zero => have h1 := HK.out; have h2 := HI.out.iter.count; omega
    | succ k1 =>
    rcases HI.out.iter.next (P := Try.prog) 0 with ⟨hall, hnx⟩ | ⟨s, v, w2, hGs, hnd, hnx, hI2, hen, q1, q2, q3, q4, q5⟩
    · have HA := Aside0.mk hall
      clear hall
      go_wp2_with (at_next; refine wpList_next_run _ rfl (.tmp 24) rfl _ _ rfl _ hnx ?_)
      go_ret
      have hI := HI.out
      have hst : stc = st := sorted_ext hI.files.sorted HD.out.files.sorted (fun s => by
        rcases HD.out.files.at_ s with ⟨h1, h2⟩ | ⟨r, f, h1, h2, _⟩
        · rw [h2]
          exact (hI.have_ s).2 (fun hm => hI.iter.sub hm (by rw [h1]; rfl))
        · exact (hI.have_ s).1 (HA.out s (.pointer (some ⟨r.F, 0, none⟩)) (by rw [h1]; rfl)))
      subst hst
      exact ⟨_, _, dat2, fs2, rfl, ⟨hI.cells, hI.files, Nat.le_succ _, HD.out.room0, HD.out.room1, HD.out.fit, HD.out.few⟩, hI.below⟩
    · have hI := HI.out
      obtain ⟨r, hr, hv⟩ : ∃ r, fs s = some r ∧ v = .pointer (some ⟨r.F, 0, none⟩) := by
        cases hq : fs s with
        | none => rw [hq] at hGs; cases hGs
        | some r => rw [hq] at hGs; exact ⟨r, rfl, (Option.some.inj hGs).symm⟩
      subst hv
      rcases HD.out.files.at_ s with ⟨k1', _⟩ | ⟨r', f, k1', k2, kf⟩
      · rw [k1'] at hr; cases hr
      rw [k1'] at hr
      cases hr
      have hit : ∃ c1 c2 c3, wr.heap[wb.heap.size]? = some (.mapIter (some M) c1 c2 c3) := by
        obtain ⟨ma, clk, seen, c1, m1, m2, m3, m4, m5, m6⟩ := hI.iter
        exact ⟨_, _, _, m5⟩
      obtain ⟨i1, i2, i3, hit⟩ := hit
      have hitD : w.heap.size + 1 ≠ wb.heap.size := fun e => by have := hI.cells; rw [e, hit] at this; cases this
      have hitM : w.heap.size ≠ wb.heap.size := fun e => by
        obtain ⟨ma, clk, hm, _⟩ := hI.files.map
        rw [e, hit] at hm; cases hm
      have hb2 : Below w.heap.size w w2 := by
        have hb := hI.below
        have hsz : w.heap.size ≤ wb.heap.size := by have := HSB.out; omega
        exact ⟨q1.trans hb.os, q2.trans hb.tape, q3.trans hb.output, by rw [q4]; exact hb.size, fun k hk => (q5 k (by omega)).trans (hb.block k hk)⟩
      have hf2 := hI.files.move (w' := w2) (by rw [q4]; exact Nat.le_refl _) (q5 _ hitM) (fun t q hq => q5 _ (fun e => by
        rcases hI.files.at_ t with ⟨h1, _⟩ | ⟨q', g, h1, _, hg⟩
        · rw [h1] at hq; cases hq
        · rw [h1] at hq; cases hq
          have := hg.cells
          rw [e, hit] at this; cases this)) (fun k hk => q5 _ (fun e => by
        obtain ⟨cs, fz, h5⟩ := hI.files.rows5 k hk
        rw [e, hit] at h5; cases h5))
      have hd2 := (q5 _ hitD).trans hI.cells
      have hc2 : w2.cell? ⟨w.heap.size + 1, 0, none⟩ = some (.map (some w.heap.size)) := (blk_cell hd2 0).trans rfl
      have hfw2 := kf.move (w' := w2) (hb2.block _ (heap_lt kf.cells)) (fun k _ hk => hb2.block k hk)
      have HH := Aside0.mk (And.intro hI2 (And.intro hb2 (And.intro hf2 hd2)))
      have HF := Aside0.mk hfw2
      have HC := Aside0.mk hc2
      have HL := Aside0.mk (And.intro k2 k1')
      have hll : f.b.length ≤ 16777216 := file_small HD.out k2
      have HLL := Aside0.mk hll
      clear hI q1 q2 q3 q4 q5 hI2 hb2 hf2 hd2 hfw2 k2 k1' kf hit hitD hitM hll hGs hnd
      go_wp2_with (at_next; refine wpList_next_run _ rfl (.tmp 24) rfl _ _ rfl _ hnx ?_)
      refine start_ (n := 18) (S := fun w' => w'.cell? ⟨w.heap.size + 1, 0, none⟩ = some (.map (some w.heap.size)) ∧ w'.cell? ⟨r.F, 0, none⟩ = some (.slice r.A f.b.length r.c) ∧ w'.cell? ⟨r.F, 1, none⟩ = some (.int .i64 f.l)) (ds := [17]) #[false, false, false, false, false, false, false, false, false, false, false, false, false, false, false, false, false, false] (by kernel_rfl) rfl rfl ⟨HC.out, HF.out.cell.1, HF.out.cell.2.1⟩ (fun hHeld => ?_); refine with_tabW clone.tab7 clone.bits7 (fun HT_ HW_ => ?_)
      refine pure_ (i := 0) (N := some 30) (v := ?_) (a' := ?_) #[true, false, false, false, false, false, false, false, false, false, false, false, false, false, false, false, false, false] rfl rfl (any_of HT_.out (by kernel_rfl)) (fun _ _ _ h => h) (Or.inl ⟨by rfl, ?_⟩) ?_ ?_
      rotate_left
      · intro w'
        go_simp
        with_reducible rfl
      rotate_left
      · simp only [Act.put, List.setIfInBounds_toArray, List.set_cons_zero, List.set_cons_succ, i64_w, i32_w, xu32_w, xu8_w]
        rfl
      refine pure_ (i := 1) (N := some 31) (v := ?_) (a' := ?_) #[true, true, false, false, false, false, false, false, false, false, false, false, false, false, false, false, false, false] rfl rfl (any_of HT_.out (by kernel_rfl)) (fun _ _ _ h => h) (Or.inl ⟨by rfl, ?_⟩) ?_ ?_
      rotate_left
      · intro w'
        go_simp
        with_reducible rfl
      rotate_left
      · simp only [Act.put, List.setIfInBounds_toArray, List.set_cons_zero, List.set_cons_succ, i64_w, i32_w, xu32_w, xu8_w]
        rfl
      refine pure_ (i := 2) (N := some 32) (v := ?_) (a' := ?_) #[true, true, true, false, false, false, false, false, false, false, false, false, false, false, false, false, false, false] rfl rfl (any_of HT_.out (by kernel_rfl)) (fun _ _ _ h => h) (Or.inl ⟨by rfl, ?_⟩) ?_ ?_
      rotate_left
      · intro w'
        go_simp
        with_reducible rfl
      rotate_left
      · simp only [Act.put, List.setIfInBounds_toArray, List.set_cons_zero, List.set_cons_succ, i64_w, i32_w, xu32_w, xu8_w]
        rfl
      refine pure_ (i := 4) (N := some 34) (v := ?_) (a' := ?_) #[true, true, true, false, true, false, false, false, false, false, false, false, false, false, false, false, false, false] rfl rfl (any_of HT_.out (by kernel_rfl)) (fun _ _ _ h => h) (Or.inl ⟨by rfl, ?_⟩) ?_ ?_
      rotate_left
      · intro w'
        go_simp
        with_reducible rfl
      rotate_left
      · simp only [Act.put, List.setIfInBounds_toArray, List.set_cons_zero, List.set_cons_succ, i64_w, i32_w, xu32_w, xu8_w]
        rfl
      refine pure_ (i := 6) (N := some 36) (v := ?_) (a' := ?_) #[true, true, true, false, true, false, true, false, false, false, false, false, false, false, false, false, false, false] rfl rfl (any_of HT_.out (by kernel_rfl)) (fun _ _ _ h => h) (Or.inl ⟨by rfl, ?_⟩) ?_ ?_
      rotate_left
      · intro w'
        go_simp
        with_reducible rfl
      rotate_left
      · simp only [Act.put, List.setIfInBounds_toArray, List.set_cons_zero, List.set_cons_succ, i64_w, i32_w, xu32_w, xu8_w]
        rfl
      refine pure_ (i := 7) (N := some 37) (v := ?_) (a' := ?_) #[true, true, true, false, true, false, true, true, false, false, false, false, false, false, false, false, false, false] rfl rfl (any_of HT_.out (by kernel_rfl)) (fun _ _ _ h => h) (Or.inl ⟨by rfl, ?_⟩) ?_ ?_
      rotate_left
      · intro w'
        go_simp
        with_reducible rfl
      rotate_left
      · simp only [Act.put, List.setIfInBounds_toArray, List.set_cons_zero, List.set_cons_succ, i64_w, i32_w, xu32_w, xu8_w]
        rfl
      refine pure_ (i := 8) (N := some 38) (v := ?_) (a' := ?_) #[true, true, true, false, true, false, true, true, true, false, false, false, false, false, false, false, false, false] rfl rfl (any_of HT_.out (by kernel_rfl)) (fun _ _ _ h => h) (Or.inl ⟨by rfl, ?_⟩) ?_ ?_
      rotate_left
      · intro w'
        go_simp
        with_reducible rfl
      rotate_left
      · simp only [Act.put, List.setIfInBounds_toArray, List.set_cons_zero, List.set_cons_succ, i64_w, i32_w, xu32_w, xu8_w]
        rfl
      refine pure_ (i := 11) (N := some 41) (v := ?_) (a' := ?_) #[true, true, true, false, true, false, true, true, true, false, false, true, false, false, false, false, false, false] rfl rfl (any_of HT_.out (by kernel_rfl)) (fun _ _ _ h => h) (Or.inl ⟨by rfl, ?_⟩) ?_ ?_
      rotate_left
      · intro w'
        go_simp
        with_reducible rfl
      rotate_left
      · simp only [Act.put, List.setIfInBounds_toArray, List.set_cons_zero, List.set_cons_succ, i64_w, i32_w, xu32_w, xu8_w]
        rfl
      refine pure_ (i := 12) (N := some 42) (v := ?_) (a' := ?_) #[true, true, true, false, true, false, true, true, true, false, false, true, true, false, false, false, false, false] rfl rfl (any_of HT_.out (by kernel_rfl)) (fun _ _ _ h => h) (Or.inl ⟨by rfl, ?_⟩) ?_ ?_
      rotate_left
      · intro w'
        go_simp
        with_reducible rfl
      rotate_left
      · simp only [Act.put, List.setIfInBounds_toArray, List.set_cons_zero, List.set_cons_succ, i64_w, i32_w, xu32_w, xu8_w]
        rfl
      refine pure_ (i := 13) (N := some 43) (v := ?_) (a' := ?_) #[true, true, true, false, true, false, true, true, true, false, false, true, true, true, false, false, false, false] rfl rfl (any_of HT_.out (by kernel_rfl)) (fun _ _ _ h => h) (Or.inl ⟨by rfl, ?_⟩) ?_ ?_
      rotate_left
      · intro w'
        go_simp
        with_reducible rfl
      rotate_left
      · simp only [Act.put, List.setIfInBounds_toArray, List.set_cons_zero, List.set_cons_succ, i64_w, i32_w, xu32_w, xu8_w]
        rfl
      refine take_ (i := 3) (N := some 33) (v := ?_) (a' := ?_) #[true, true, true, true, true, false, true, true, true, false, false, true, true, true, false, false, false, false] rfl rfl (take_ofW HT_.out HW_.out (by kernel_rfl)) (fun _ _ _ h => h) (Or.inl ⟨by rfl, ?_⟩) hHeld ?_ ?_
      rotate_left
      · rintro w' ⟨s0, s1, s2⟩
        go_simp
        with_reducible rfl
      rotate_left
      · simp only [Act.put, List.setIfInBounds_toArray, List.set_cons_zero, List.set_cons_succ, i64_w, i32_w, xu32_w, xu8_w]
        rfl
      refine take_ (i := 9) (N := some 39) (v := ?_) (a' := ?_) #[true, true, true, true, true, false, true, true, true, true, false, true, true, true, false, false, false, false] rfl rfl (take_ofW HT_.out HW_.out (by kernel_rfl)) (fun _ _ _ h => h) (Or.inl ⟨by rfl, ?_⟩) hHeld ?_ ?_
      rotate_left
      · rintro w' ⟨s0, s1, s2⟩
        go_simp
        with_reducible rfl
      rotate_left
      · simp only [Act.put, List.setIfInBounds_toArray, List.set_cons_zero, List.set_cons_succ, i64_w, i32_w, xu32_w, xu8_w]
        rfl
      refine take_ (i := 14) (N := some 44) (v := ?_) (a' := ?_) #[true, true, true, true, true, false, true, true, true, true, false, true, true, true, true, false, false, false] rfl rfl (take_ofW HT_.out HW_.out (by kernel_rfl)) (fun _ _ _ h => h) (Or.inl ⟨by rfl, ?_⟩) hHeld ?_ ?_
      rotate_left
      · rintro w' ⟨s0, s1, s2⟩
        go_simp
        with_reducible rfl
      rotate_left
      · simp only [Act.put, List.setIfInBounds_toArray, List.set_cons_zero, List.set_cons_succ, i64_w, i32_w, xu32_w, xu8_w]
        rfl
      refine one_ (i := 5) (N := some 35) #[true, true, true, true, true, true, true, true, true, true, false, true, true, true, true, false, false, false] rfl rfl (one_of HT_.out (by kernel_rfl)) (by decide) (fun K hK => ?_)
      refine Kd.R_lit_step (Kd.int .u8) w2.heap.size 5 ?hg (N := 35) ?hd (xs := ([] : List Int)) (inner := []) (ok := fun k => w2.heap.size ≤ k) (okp := fun _ => False) ?hr ?hp (fun _ hk => hk.elim) (Nat.le_refl _) (below_drew (Below.refl _ _)) (Nat.le_refl _) (by simp) ?_
      (case hd => rfl)
      (case hg => rfl)
      (case hr => first | (go_simp; done) | (go_simp; rfl))
      (case hp => exact (Reps.none _ _))
      intro v3 w3 ho3 hb3 hg3 hn3
      have HL1 := Aside0.mk (And.intro ho3 hb3)
      refine hK.out _ _ (ps3 ⟨HC.out, HF.out.cell.1, HF.out.cell.2.1⟩ hb3) (fun hHeld => ?_)
      clear hK K ho3 hb3 hg3 hn3
      refine norm_ (a' := ?_) ?_ ?_
      rotate_left
      · show Act.put _ (some 35) _ = _
        simp only [Act.put, List.setIfInBounds_toArray, List.set_cons_zero, List.set_cons_succ, i64_w, i32_w, xu32_w, xu8_w]
        rfl
      refine one_ (i := 10) (N := some 40) #[true, true, true, true, true, true, true, true, true, true, true, true, true, true, true, false, false, false] rfl rfl (one_of HT_.out (by kernel_rfl)) (by decide) (fun K hK => ?_)
      refine Kd.R_append_rows_step (Kd.int .u8) (w0 := w2) w2.heap.size (by rfl) (.tmp 35) (.tmp 39) 29 5 (.int .u8 0) 1 rfl Try.underlying29 info5 rfl (by decide) (by omega) v3 [] f.b _ _ _ (fun k => w2.heap.size ≤ k) (fun _ => False) rfl rfl ?aO ?aR (fun _ _ h => h) (fun _ h => h.elim) ?aF ?aB ?aS ?aL ?_
      (case aR => exact Kd.C_below HF.out.row HL1.out.2)
      (case aB => exact HL1.out.2)
      (case aF => exact fun k hk => Nat.le_trans HL1.out.2.size hk)
      (case aO => exact HL1.out.1)
      (case aS => exact HL1.out.2.size)
      (case aL => have := HLL.out; simp; omega)
      intro v4 w4 ho4 hb4 hg4 hat4
      rw [List.nil_append] at ho4
      obtain ⟨A4, c4, rfl⟩ := Kd.R_slice ho4
      obtain ⟨w5, hw5⟩ : ∃ w5 : World, w5 = w4.alloc (.cells #[.slice A4 f.b.length c4, .int .i64 f.l] 68) := ⟨_, rfl⟩
      have HL3 := Aside0.mk (And.intro ho4 (And.intro hb4 hw5))
      have hb5 : Below w2.heap.size w2 w5 := by rw [hw5]; exact below_alloc hb4 _
      have hM5 : MapF w5 w.heap.size (fun s => (fs2 s).map (fun r => .pointer (some ⟨r.F, 0, none⟩))) := HH.out.2.2.1.map.move (hb5.block _ HH.out.2.2.1.map.lt)
      obtain ⟨w6, hup, hM6, y2, y3, y4, y5, y6⟩ := MapF.put (P := Try.prog) Try.underlying55 Try.underlying9 hM5 s (.pointer (some ⟨w4.heap.size, 0, none⟩))
      have HQ := Aside0.mk (And.intro hM6 (And.intro y2 (And.intro y3 (And.intro y4 (And.intro y5 (And.intro y6 trivial))))))
      have HB5 := Aside0.mk hb5
      clear hM6 y2 y3 y4 y5 y6 hM5
      refine hK.out _ _ (ps3 ⟨HC.out, HF.out.cell.1, HF.out.cell.2.1⟩ hb4) (fun hHeld => ?_)
      clear hK K ho4 hb4 hg4 hat4 hb5 HL1
      refine norm_ (a' := ?_) ?_ ?_
      rotate_left
      · show Act.put _ (some 40) _ = _
        simp only [Act.put, List.setIfInBounds_toArray, List.set_cons_zero, List.set_cons_succ, i64_w, i32_w, xu32_w, xu8_w]
        rfl
      refine pure_ (i := 15) (N := some 45) (v := ?_) (a' := ?_) #[true, true, true, true, true, true, true, true, true, true, true, true, true, true, true, true, false, false] rfl rfl (any_of HT_.out (by kernel_rfl)) (fun _ _ _ h => h) (Or.inl ⟨by rfl, ?_⟩) ?_ ?_
      rotate_left
      · intro w'
        go_simp
        with_reducible rfl
      rotate_left
      · simp only [Act.put, List.setIfInBounds_toArray, List.set_cons_zero, List.set_cons_succ, i64_w, i32_w, xu32_w, xu8_w]
        rfl
      refine one_ (i := 16) (N := some 46) #[true, true, true, true, true, true, true, true, true, true, true, true, true, true, true, true, true, false] rfl rfl (one_of HT_.out (by kernel_rfl)) (by decide) (fun K hK => ?_)
      refine value_ (v := .pointer (some ⟨w4.heap.size, 0, none⟩)) (w1 := w5) (by rfl) rfl (by rw [hw5]; first | (go_simp; done) | (go_simp; rfl)) ?_
      refine hK.out _ _ (ps3 ⟨HC.out, HF.out.cell.1, HF.out.cell.2.1⟩ HB5.out) (fun hHeld => ?_)
      clear hK K hw5
      refine norm_ (a' := ?_) ?_ ?_
      rotate_left
      · show Act.put _ (some 46) _ = _
        simp only [Act.put, List.setIfInBounds_toArray, List.set_cons_zero, List.set_cons_succ, i64_w, i32_w, xu32_w, xu8_w]
        rfl
      refine last_ (i := 17) (N := none) #[true, true, true, true, true, true, true, true, true, true, true, true, true, true, true, true, true, true] rfl rfl (one_of HT_.out (by kernel_rfl)) (by decide) (fun K hK => ?_)
      refine skip_ (w1 := w6) (by rfl) rfl (by first | (go_simp; done) | (go_simp; rfl)) ?_
      refine hK.out _ _ ?_
      clear hK K hup
      refine done_ (done_of HT_.out (by kernel_rfl)) ?_
      clear hHeld HT_ HW_
      go_wp2_with (fail)
      go_roundg k1
      case measure => omega
      case rel =>
        obtain ⟨z1, z2, z3⟩ := HL3.out
        obtain ⟨hI2, hb2, hf2, hd2⟩ := HH.out
        obtain ⟨y1, y2, y3, y4, y5, y6, y7⟩ := HQ.out
        have hnm := (look_mem HL.out.1).2
        obtain ⟨dat3, fs3, stc3, g1, g2⟩ := clone_step (st := st) HL.out.1 HF.out.low HF.out.high (HD.out.files.names f (look_mem HL.out.1).1) hnm hf2 HI.out.have_ ⟨_, _, rfl⟩ z1 z2 z3 hb2.size y1 y6
        have hz := z2.size
        have hold : ∀ k, k < w2.heap.size → k ≠ w.heap.size → w6.heap[k]? = w2.heap[k]? := fun k hk hn => by
          rw [y6 k hn, z3, heap_alloc_old w4 _ (by omega)]
          exact z2.block k hk
        have hM9 := HD.out.files.map.lt
        refine ⟨ds ++ [s], dat3, fs3, stc3, ⟨by have := HK.out; rw [List.length_append]; simp; omega⟩, ⟨hI2.move (hold M hI2.map.lt (by omega)) (hold _ hI2.lt (by have := HSB.out; omega)), ⟨y2.trans (by rw [z3]; exact z2.os.trans hb2.os), y3.trans (by rw [z3]; exact z2.tape.trans hb2.tape), y4.trans (by rw [z3]; exact z2.output.trans hb2.output), by rw [y5, z3]; have := hb2.size; simp; omega, fun k hk => (hold k (by have := hb2.size; omega) (by omega)).trans (hb2.block k hk)⟩, (hold _ (heap_lt hd2) (by omega)).trans hd2, g1, g2⟩⟩
end
end Go.Proofs.Ytkdbojaoaldmbaa.G
