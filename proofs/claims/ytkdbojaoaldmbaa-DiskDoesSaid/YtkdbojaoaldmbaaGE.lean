import Derived.Test.YtkdbojaoaldmbaaGD
import Derived.Test.YtkdbojaoaldmbaaG18
/- The document's disk by hand: Swap. -/
namespace Go.Proofs.Ytkdbojaoaldmbaa.G
open Go.RowKit Go.Proofs.Ytkdbojaoaldmbaa.Q Go.Proofs.YtkdbojaoaldmbaaW.PrintWords Go.Proofs.YtkdbojaoaldmbaaW.PrintLast Go.Proofs.YtkdbojaoaldmbaaW.PrintMore
set_option linter.unusedVariables false
set_option linter.unusedSimpArgs false
def rswap.T6 : Bool × List (List Nat × List Nat) := (true, [([], []), ([0], [0]), ([1], [1]), ([2], [2]), ([], []), ([3, 4], [3, 4]), ([5], [5]), ([6], [6]), ([], []), ([8], [8]), ([9], [9]), ([10], [10]), ([], []), ([11, 12], [11, 12]), ([13], [13]), ([14], [14]), ([15], [15]), ([7, 16], [7, 16]), ([17], [17])])
def rswap.B6 : List Nat := [0, 1, 3, 7, 0, 31, 63, 127, 0, 256, 768, 1792, 0, 7936, 16128, 32512, 65280, 131071, 262143]
theorem rswap.tab6 : rtab .any (opsOf Try.f39 6) = rswap.T6 := by kernel_rfl
theorem rswap.bits6 : waitsOk rswap.T6.2 rswap.B6 = true := by kernel_rfl
section
variable {w : World} {g B : Nat} {room : Int} {st : St}
theorem swap_self (hs : Sorted st) {s : ByteArray} {f : FS} (hl : look st s = some f) : put (G.drop st s) ⟨s, f.b, f.l⟩ = st := by
  have hn := (look_mem hl).2
  refine sorted_ext (put_sorted _ (drop_sorted s hs)) hs (fun u => ?_)
  rw [look_put _ _ (drop_sorted s hs), look_drop]
  by_cases h : u = s
  · rw [if_pos h, h, hl, ← hn]
  · rw [if_neg h, if_neg h]
theorem swap_doc (hs : Sorted st) {s t : ByteArray} {f : FS} (hl : look st s = some f) (ht : titleB t = true) (hq : ¬ f.l < f.b.length) : swapSt st s t = put (G.drop st s) ⟨t, f.b, f.l⟩ := by
  unfold swapSt
  rw [hl]
  dsimp only
  rw [if_pos ht, if_neg hq]
  by_cases h : s = t
  · rw [if_pos h, ← h, swap_self hs hl]
  · rw [if_neg h]; rfl
theorem swap_base {w w9 w8 W : World} {B : Nat} (h : B ≤ w.heap.size) (h9 : Below w.heap.size w w9) (h8 : Below w9.heap.size w9 w8) (hb : Below w8.heap.size w8 W) : B ≤ W.heap.size := Nat.le_trans h (Nat.le_trans h9.size (Nat.le_trans h8.size hb.size))
theorem swap_cells {w8 W w5 : World} {s n : ByteArray} {v1 : Value} {l : Int} (h8 : RefG w8 g B room st) (hbW : Below w8.heap.size w8 W) (hF : W.heap[w8.heap.size]? = some (.cells #[.string n, v1, .int .i64 l] 71 (0, 0))) (hC : Chg (fun k => k = g) W w5)
    (hoff : ∀ (F j : Nat) (u : Value), F < W.heap.size → (∃ cs, W.heap[F]? = some (.cells cs 71 (0, 0))) → RefG (w5.setCell ⟨F, j, none⟩ u) g B room (G.drop st s)) (t : ByteArray) :
    (w5.cell? ⟨w8.heap.size, 0, none⟩ = some (.string n) ∧ w5.cell? ⟨w8.heap.size, 1, none⟩ = some v1 ∧ w5.cell? ⟨w8.heap.size, 2, none⟩ = some (.int .i64 l) ∧ w5.frozen? ⟨w8.heap.size, 0, none⟩ = false) ∧ RefG (w5.setCell ⟨w8.heap.size, 0, none⟩ (.string t)) g B room (G.drop st s) ∧ w8.heap.size ≤ w5.heap.size := by
  obtain ⟨v, hg, _⟩ := h8.ex
  have hgl := heap_lt hg
  have h5 := (hC.block w8.heap.size (heap_lt hF) (fun e => by omega)).trans hF
  exact ⟨⟨(blk_cell h5 0).trans rfl, (blk_cell h5 1).trans rfl, (blk_cell h5 2).trans rfl, blk_frozen h5 0⟩, hoff _ 0 _ (heap_lt hF) ⟨_, hF⟩, Nat.le_trans hbW.size hC.size⟩
theorem swap_M {w9 w8 W w5 : World} {f : FS} {A1 : Option Addr} {c1 : Nat} (h9 : RefG w9 g B room st) (hM : k71.M w9 B (fun k => B ≤ k ∧ k < w9.heap.size) (toS f) [.string f.n, .slice A1 f.b.length c1, .int .i64 f.l]) (h8 : Below w9.heap.size w9 w8) (hbW : Below w8.heap.size w8 W) (hC : Chg (fun k => k = g) W w5) (t : ByteArray) :
    k71.M (w5.setCell ⟨w8.heap.size, 0, none⟩ (.string t)) B (fun k => B ≤ k ∧ k < (w5.setCell ⟨w8.heap.size, 0, none⟩ (.string t)).heap.size) (toS ⟨t, f.b, f.l⟩) [.string t, .slice A1 f.b.length c1, .int .i64 f.l] := by
  obtain ⟨v, hg, _⟩ := h9.ex
  have hm := Kd.M_types hM hg (fun q hq => by
    have : q = 5 := by simpa [k71, Kd.iso, Kd.pair, Kd.slice, Kd.int, Kd.string, Kd.scalar] using hq
    rw [this]; decide)
  have hz8 := h8.size
  have hzW := hbW.size
  have hz5 := hC.size
  have hm6 := Kd.M_step (w1 := w5.setCell ⟨w8.heap.size, 0, none⟩ (.string t)) hm (fun k hk hlt => (Below.heap_setCell _ _ _ k (fun e => by have e' : k = w8.heap.size := e; omega)).trans ((hC.block k (by omega) hk.2).trans ((hbW.block k (by omega)).trans (h8.block k hlt))))
  obtain ⟨v1, hv1, hR1⟩ := k71_openM hm6
  have hv1' : v1 = .slice A1 f.b.length c1 := by injection hv1 with _ e; injection e with e _; exact e.symm
  subst hv1'
  exact k71.M_mono (fun k hk => ⟨hk.1.1, by have h1 := hk.1.2; simp; omega⟩) (k71_mkM _ B _ ⟨t, f.b, f.l⟩ hR1)
set_option maxHeartbeats 1000000 in
set_option maxRecDepth 100000 in
theorem rswap_calls (h : RefG w g B room st) (hB : B ≤ w.heap.size) (hs : Sorted st) (hfew : st.length ≤ 100000) (s t : ByteArray) (htz : t.size ≤ 9223372036854775807) : Calls Try.prog 39 #[.pointer (some ⟨g, 0, none⟩), .string s, .string t] w fun e w' => e = .returned (.int .i64 (swapE st s t)) ∧ RefG w' g B room (swapSt st s t) ∧ Chg (fun k => k = g) w w' := by
  have HD := Aside0.mk h
  have HF := Aside0.mk hfew
  have HSR := Aside0.mk hs
  have HBB := Aside0.mk hB
  clear h hs hB
  cases hl : look st s with
  | none =>
    have e1 : swapE st s t = 4 := by unfold swapE; rw [hl]
    have e2 : swapSt st s t = st := by unfold swapSt; rw [hl]
    rw [e1, e2]
    have HL := Aside0.mk hl
    clear e1 e2 hl
    go_enter Try.func39, Try.ntmps39
    go_wp2_with (go_at_call 42; (with_reducible refine (at_none HD.out HF.out s HL.out).mono ?_); rintro e w9 ⟨rfl, hb⟩; have HB9 := Aside0.mk hb; clear hb)
    go_ret
    exact ⟨rfl, HD.out.below HB9.out, Chg.of_below _ HB9.out⟩
  | some f =>
    have HL := Aside0.mk hl
    obtain ⟨m, hnn⟩ : ∃ m : Nat, m = st.length := ⟨_, rfl⟩
    have HN := Aside0.mk hnn
    have hnf : m ≤ 100000 := by omega
    clear hnn hfew
    by_cases ht : titleB t = true
    case neg =>
      have e1 : swapE st s t = 110 := by unfold swapE; rw [hl]; exact if_neg ht
      have e2 : swapSt st s t = st := by unfold swapSt; rw [hl]; exact if_neg ht
      have ht' : titleB t = false := by simpa using ht
      rw [e1, e2]
      clear e1 e2 hl ht
      go_enter Try.func39, Try.ntmps39
      go_wp2_with (first
        | (go_at_call 42; (with_reducible refine (at_some HD.out HF.out s HL.out).mono ?_); rintro e w9 ⟨i, hi, rfl, hb⟩; have HB9 := Aside0.mk hb; have hi0 : ¬ (i : Int) < 0 := (by omega); obtain ⟨ad, c, A1, c1, g1, hil, hcc, x0, x1, x2, hc1, hC1, hM⟩ := (HD.out.below hb).at_ hi; rw [← HN.out] at g1 hil hcc; have hi1 : (i : Int) < (m : Int) := (by omega); have hi2 : (0 : Int) ≤ (i : Int) := (by omega); have HM := Aside0.mk hM; clear hb hi hC1 hM)
        | (go_at_call 45; (with_reducible refine (rtitle_calls t htz _).mono ?_); rintro e w8 ⟨rfl, hw8⟩; rw [ht']; have hb := drawn_below hw8; replace g1 := pw_cell_below hb g1; replace x0 := pw_cell_below hb x0; replace x1 := pw_cell_below hb x1; replace x2 := pw_cell_below hb x2; have HB8 := Aside0.mk hb; clear hw8 hb))
      go_ret
      exact ⟨rfl, (HD.out.below HB9.out).below HB8.out, Chg.of_below _ (HB9.out.trans (HB8.out.mono HB9.out.size))⟩
    case pos =>
    by_cases hq : f.l < f.b.length
    case pos =>
      have e1 : swapE st s t = 7 := by unfold swapE; rw [hl]; exact (if_pos ht).trans (if_pos hq)
      have e2 : swapSt st s t = st := by unfold swapSt; rw [hl]; exact (if_pos ht).trans (if_pos hq)
      rw [e1, e2]
      clear e1 e2 hl
      go_enter Try.func39, Try.ntmps39
      go_wp2_with (first
        | (go_at_call 42; (with_reducible refine (at_some HD.out HF.out s HL.out).mono ?_); rintro e w9 ⟨i, hi, rfl, hb⟩; have HB9 := Aside0.mk hb; have hi0 : ¬ (i : Int) < 0 := (by omega); obtain ⟨ad, c, A1, c1, g1, hil, hcc, x0, x1, x2, hc1, hC1, hM⟩ := (HD.out.below hb).at_ hi; rw [← HN.out] at g1 hil hcc; have hi1 : (i : Int) < (m : Int) := (by omega); have hi2 : (0 : Int) ≤ (i : Int) := (by omega); have HM := Aside0.mk hM; clear hb hi hC1 hM)
        | (go_at_call 45; (with_reducible refine (rtitle_calls t htz _).mono ?_); rintro e w8 ⟨rfl, hw8⟩; rw [ht]; have hb := drawn_below hw8; replace g1 := pw_cell_below hb g1; replace x0 := pw_cell_below hb x0; replace x1 := pw_cell_below hb x1; replace x2 := pw_cell_below hb x2; have HB8 := Aside0.mk hb; clear hw8 hb))
      refine start_ (n := 19) (S := fun w' => w'.cell? ⟨g, 1, none⟩ = some (.slice (some ad) m c) ∧ w'.cell? ⟨(ad.add (i * 3)).block, (ad.add (i * 3)).off + 2, none⟩ = some (.int .i64 f.l) ∧ w'.cell? ⟨(ad.add (i * 3)).block, (ad.add (i * 3)).off + 1, none⟩ = some (.slice A1 f.b.length c1)) (ds := []) #[false, false, false, false, false, false, false, false, false, false, false, false, false, false, false, false, false, false, false] (by kernel_rfl) rfl rfl ⟨g1, x2, x1⟩ (fun hHeld => ?_); refine with_tabW rswap.tab6 rswap.bits6 (fun HT_ HW_ => ?_)
      refine pure_ (i := 0) (N := some 20) (v := ?_) (a' := ?_) #[true, false, false, false, false, false, false, false, false, false, false, false, false, false, false, false, false, false, false] rfl rfl (any_of HT_.out (by kernel_rfl)) (fun _ _ _ h => h) (Or.inl ⟨by rfl, ?_⟩) ?_ ?_
      rotate_left
      · intro w'
        go_simp
        with_reducible rfl
      rotate_left
      · simp only [Act.put, List.setIfInBounds_toArray, List.set_cons_zero, List.set_cons_succ, i64_w, i32_w, xu32_w, xu8_w]
        rfl
      refine pure_ (i := 1) (N := some 21) (v := ?_) (a' := ?_) #[true, true, false, false, false, false, false, false, false, false, false, false, false, false, false, false, false, false, false] rfl rfl (any_of HT_.out (by kernel_rfl)) (fun _ _ _ h => h) (Or.inl ⟨by rfl, ?_⟩) ?_ ?_
      rotate_left
      · intro w'
        go_simp
        with_reducible rfl
      rotate_left
      · simp only [Act.put, List.setIfInBounds_toArray, List.set_cons_zero, List.set_cons_succ, i64_w, i32_w, xu32_w, xu8_w]
        rfl
      refine pure_ (i := 2) (N := some 22) (v := ?_) (a' := ?_) #[true, true, true, false, false, false, false, false, false, false, false, false, false, false, false, false, false, false, false] rfl rfl (any_of HT_.out (by kernel_rfl)) (fun _ _ _ h => h) (Or.inl ⟨by rfl, ?_⟩) ?_ ?_
      rotate_left
      · intro w'
        go_simp
        with_reducible rfl
      rotate_left
      · simp only [Act.put, List.setIfInBounds_toArray, List.set_cons_zero, List.set_cons_succ, i64_w, i32_w, xu32_w, xu8_w]
        rfl
      refine pure_ (i := 4) (N := some 24) (v := ?_) (a' := ?_) #[true, true, true, false, true, false, false, false, false, false, false, false, false, false, false, false, false, false, false] rfl rfl (any_of HT_.out (by kernel_rfl)) (fun _ _ _ h => h) (Or.inl ⟨by rfl, ?_⟩) ?_ ?_
      rotate_left
      · intro w'
        go_simp
        with_reducible rfl
      rotate_left
      · simp only [Act.put, List.setIfInBounds_toArray, List.set_cons_zero, List.set_cons_succ, i64_w, i32_w, xu32_w, xu8_w]
        rfl
      refine pure_ (i := 8) (N := some 28) (v := ?_) (a' := ?_) #[true, true, true, false, true, false, false, false, true, false, false, false, false, false, false, false, false, false, false] rfl rfl (any_of HT_.out (by kernel_rfl)) (fun _ _ _ h => h) (Or.inl ⟨by rfl, ?_⟩) ?_ ?_
      rotate_left
      · intro w'
        go_simp
        with_reducible rfl
      rotate_left
      · simp only [Act.put, List.setIfInBounds_toArray, List.set_cons_zero, List.set_cons_succ, i64_w, i32_w, xu32_w, xu8_w]
        rfl
      refine pure_ (i := 9) (N := some 29) (v := ?_) (a' := ?_) #[true, true, true, false, true, false, false, false, true, true, false, false, false, false, false, false, false, false, false] rfl rfl (any_of HT_.out (by kernel_rfl)) (fun _ _ _ h => h) (Or.inl ⟨by rfl, ?_⟩) ?_ ?_
      rotate_left
      · intro w'
        go_simp
        with_reducible rfl
      rotate_left
      · simp only [Act.put, List.setIfInBounds_toArray, List.set_cons_zero, List.set_cons_succ, i64_w, i32_w, xu32_w, xu8_w]
        rfl
      refine pure_ (i := 10) (N := some 30) (v := ?_) (a' := ?_) #[true, true, true, false, true, false, false, false, true, true, true, false, false, false, false, false, false, false, false] rfl rfl (any_of HT_.out (by kernel_rfl)) (fun _ _ _ h => h) (Or.inl ⟨by rfl, ?_⟩) ?_ ?_
      rotate_left
      · intro w'
        go_simp
        with_reducible rfl
      rotate_left
      · simp only [Act.put, List.setIfInBounds_toArray, List.set_cons_zero, List.set_cons_succ, i64_w, i32_w, xu32_w, xu8_w]
        rfl
      refine pure_ (i := 12) (N := some 32) (v := ?_) (a' := ?_) #[true, true, true, false, true, false, false, false, true, true, true, false, true, false, false, false, false, false, false] rfl rfl (any_of HT_.out (by kernel_rfl)) (fun _ _ _ h => h) (Or.inl ⟨by rfl, ?_⟩) ?_ ?_
      rotate_left
      · intro w'
        go_simp
        with_reducible rfl
      rotate_left
      · simp only [Act.put, List.setIfInBounds_toArray, List.set_cons_zero, List.set_cons_succ, i64_w, i32_w, xu32_w, xu8_w]
        rfl
      refine take_ (i := 3) (N := some 23) (v := ?_) (a' := ?_) #[true, true, true, true, true, false, false, false, true, true, true, false, true, false, false, false, false, false, false] rfl rfl (take_ofW HT_.out HW_.out (by kernel_rfl)) (fun _ _ _ h => h) (Or.inl ⟨by rfl, ?_⟩) hHeld ?_ ?_
      rotate_left
      · rintro w' ⟨s0, s1, s2⟩
        go_simp
        with_reducible rfl
      rotate_left
      · simp only [Act.put, List.setIfInBounds_toArray, List.set_cons_zero, List.set_cons_succ, i64_w, i32_w, xu32_w, xu8_w]
        rfl
      refine pure_ (i := 5) (N := some 25) (v := ?_) (a' := ?_) #[true, true, true, true, true, true, false, false, true, true, true, false, true, false, false, false, false, false, false] rfl rfl (any_of HT_.out (by kernel_rfl)) (fun _ _ _ h => h) (Or.inl ⟨by rfl, ?_⟩) ?_ ?_
      rotate_left
      · intro w'
        go_simp
        with_reducible rfl
      rotate_left
      · simp only [Act.put, List.setIfInBounds_toArray, List.set_cons_zero, List.set_cons_succ, i64_w, i32_w, xu32_w, xu8_w]
        rfl
      refine pure_ (i := 6) (N := some 26) (v := ?_) (a' := ?_) #[true, true, true, true, true, true, true, false, true, true, true, false, true, false, false, false, false, false, false] rfl rfl (any_of HT_.out (by kernel_rfl)) (fun _ _ _ h => h) (Or.inl ⟨by rfl, ?_⟩) ?_ ?_
      rotate_left
      · intro w'
        go_simp
        with_reducible rfl
      rotate_left
      · simp only [Act.put, List.setIfInBounds_toArray, List.set_cons_zero, List.set_cons_succ, i64_w, i32_w, xu32_w, xu8_w]
        rfl
      refine take_ (i := 7) (N := some 27) (v := ?_) (a' := ?_) #[true, true, true, true, true, true, true, true, true, true, true, false, true, false, false, false, false, false, false] rfl rfl (take_ofW HT_.out HW_.out (by kernel_rfl)) (fun _ _ _ h => h) (Or.inl ⟨by rfl, ?_⟩) hHeld ?_ ?_
      rotate_left
      · rintro w' ⟨s0, s1, s2⟩
        go_simp
        with_reducible rfl
      rotate_left
      · simp only [Act.put, List.setIfInBounds_toArray, List.set_cons_zero, List.set_cons_succ, i64_w, i32_w, xu32_w, xu8_w]
        rfl
      refine take_ (i := 11) (N := some 31) (v := ?_) (a' := ?_) #[true, true, true, true, true, true, true, true, true, true, true, true, true, false, false, false, false, false, false] rfl rfl (take_ofW HT_.out HW_.out (by kernel_rfl)) (fun _ _ _ h => h) (Or.inl ⟨by rfl, ?_⟩) hHeld ?_ ?_
      rotate_left
      · rintro w' ⟨s0, s1, s2⟩
        go_simp
        with_reducible rfl
      rotate_left
      · simp only [Act.put, List.setIfInBounds_toArray, List.set_cons_zero, List.set_cons_succ, i64_w, i32_w, xu32_w, xu8_w]
        rfl
      refine pure_ (i := 13) (N := some 33) (v := ?_) (a' := ?_) #[true, true, true, true, true, true, true, true, true, true, true, true, true, true, false, false, false, false, false] rfl rfl (any_of HT_.out (by kernel_rfl)) (fun _ _ _ h => h) (Or.inl ⟨by rfl, ?_⟩) ?_ ?_
      rotate_left
      · intro w'
        go_simp
        with_reducible rfl
      rotate_left
      · simp only [Act.put, List.setIfInBounds_toArray, List.set_cons_zero, List.set_cons_succ, i64_w, i32_w, xu32_w, xu8_w]
        rfl
      refine pure_ (i := 14) (N := some 34) (v := ?_) (a' := ?_) #[true, true, true, true, true, true, true, true, true, true, true, true, true, true, true, false, false, false, false] rfl rfl (any_of HT_.out (by kernel_rfl)) (fun _ _ _ h => h) (Or.inl ⟨by rfl, ?_⟩) ?_ ?_
      rotate_left
      · intro w'
        go_simp
        with_reducible rfl
      rotate_left
      · simp only [Act.put, List.setIfInBounds_toArray, List.set_cons_zero, List.set_cons_succ, i64_w, i32_w, xu32_w, xu8_w]
        rfl
      refine take_ (i := 15) (N := some 35) (v := ?_) (a' := ?_) #[true, true, true, true, true, true, true, true, true, true, true, true, true, true, true, true, false, false, false] rfl rfl (take_ofW HT_.out HW_.out (by kernel_rfl)) (fun _ _ _ h => h) (Or.inl ⟨by rfl, ?_⟩) hHeld ?_ ?_
      rotate_left
      · rintro w' ⟨s0, s1, s2⟩
        go_simp
        with_reducible rfl
      rotate_left
      · simp only [Act.put, List.setIfInBounds_toArray, List.set_cons_zero, List.set_cons_succ, i64_w, i32_w, xu32_w, xu8_w]
        rfl
      refine pure_ (i := 16) (N := some 36) (v := ?_) (a' := ?_) #[true, true, true, true, true, true, true, true, true, true, true, true, true, true, true, true, true, false, false] rfl rfl (any_of HT_.out (by kernel_rfl)) (fun _ _ _ h => h) (Or.inl ⟨by rfl, ?_⟩) ?_ ?_
      rotate_left
      · intro w'
        go_simp
        with_reducible rfl
      rotate_left
      · simp only [Act.put, List.setIfInBounds_toArray, List.set_cons_zero, List.set_cons_succ, i64_w, i32_w, xu32_w, xu8_w]
        rfl
      refine pure_ (i := 17) (N := some 37) (v := ?_) (a' := ?_) #[true, true, true, true, true, true, true, true, true, true, true, true, true, true, true, true, true, true, false] rfl rfl (any_of HT_.out (by kernel_rfl)) (fun _ _ _ h => h) (Or.inl ⟨by rfl, ?_⟩) ?_ ?_
      rotate_left
      · intro w'
        go_simp
        with_reducible rfl
      rotate_left
      · simp only [Act.put, List.setIfInBounds_toArray, List.set_cons_zero, List.set_cons_succ, i64_w, i32_w, xu32_w, xu8_w]
        rfl
      refine pure_ (i := 18) (N := some 19) (v := ?_) (a' := ?_) #[true, true, true, true, true, true, true, true, true, true, true, true, true, true, true, true, true, true, true] rfl rfl (any_of HT_.out (by kernel_rfl)) (fun _ _ _ h => h) (Or.inl ⟨by rfl, ?_⟩) ?_ ?_
      rotate_left
      · intro w'
        go_simp
        with_reducible rfl
      rotate_left
      · simp only [Act.put, List.setIfInBounds_toArray, List.set_cons_zero, List.set_cons_succ, i64_w, i32_w, xu32_w, xu8_w]
        rfl
      refine done_ (done_of HT_.out (by kernel_rfl)) ?_
      clear hHeld HT_ HW_
      go_wp2_with (fail)
      go_ret
      exact ⟨rfl, ((HD.out.below HB9.out).below HB8.out).below (below_drew (Below.refl _ _)), Chg.of_below _ (below_drew1 (HB9.out.trans (HB8.out.mono HB9.out.size)))⟩
    case neg =>
    have e1 : swapE st s t = 0 := by unfold swapE; rw [hl]; exact (if_pos ht).trans (if_neg hq)
    rw [e1, swap_doc HSR.out hl ht hq]
    have HQ := Aside0.mk (And.intro ht hq)
    clear e1 hl
    go_enter Try.func39, Try.ntmps39
    go_wp2_with (first
      | (go_at_call 42; (with_reducible refine (at_some HD.out HF.out s HL.out).mono ?_); rintro e w9 ⟨i, hi, rfl, hb⟩; have HB9 := Aside0.mk hb; have hi0 : ¬ (i : Int) < 0 := (by omega); obtain ⟨ad, c, A1, c1, g1, hil, hcc, x0, x1, x2, hc1, hC1, hM⟩ := (HD.out.below hb).at_ hi; rw [← HN.out] at g1 hil hcc; have hi1 : (i : Int) < (m : Int) := (by omega); have hi2 : (0 : Int) ≤ (i : Int) := (by omega); have HM := Aside0.mk hM; clear hb hi hC1 hM)
      | (go_at_call 45; (with_reducible refine (rtitle_calls t htz _).mono ?_); rintro e w8 ⟨rfl, hw8⟩; rw [ht]; have hb := drawn_below hw8; replace g1 := pw_cell_below hb g1; replace x0 := pw_cell_below hb x0; replace x1 := pw_cell_below hb x1; replace x2 := pw_cell_below hb x2; have HB8 := Aside0.mk hb; clear hw8 hb))
    refine start_ (n := 19) (S := fun w' => w'.cell? ⟨g, 1, none⟩ = some (.slice (some ad) m c) ∧ w'.cell? ⟨(ad.add (i * 3)).block, (ad.add (i * 3)).off + 2, none⟩ = some (.int .i64 f.l) ∧ w'.cell? ⟨(ad.add (i * 3)).block, (ad.add (i * 3)).off + 1, none⟩ = some (.slice A1 f.b.length c1)) (ds := []) #[false, false, false, false, false, false, false, false, false, false, false, false, false, false, false, false, false, false, false] (by kernel_rfl) rfl rfl ⟨g1, x2, x1⟩ (fun hHeld => ?_); refine with_tabW rswap.tab6 rswap.bits6 (fun HT_ HW_ => ?_)
    refine pure_ (i := 0) (N := some 20) (v := ?_) (a' := ?_) #[true, false, false, false, false, false, false, false, false, false, false, false, false, false, false, false, false, false, false] rfl rfl (any_of HT_.out (by kernel_rfl)) (fun _ _ _ h => h) (Or.inl ⟨by rfl, ?_⟩) ?_ ?_
    rotate_left
    · intro w'
      go_simp
      with_reducible rfl
    rotate_left
    · simp only [Act.put, List.setIfInBounds_toArray, List.set_cons_zero, List.set_cons_succ, i64_w, i32_w, xu32_w, xu8_w]
      rfl
    refine pure_ (i := 1) (N := some 21) (v := ?_) (a' := ?_) #[true, true, false, false, false, false, false, false, false, false, false, false, false, false, false, false, false, false, false] rfl rfl (any_of HT_.out (by kernel_rfl)) (fun _ _ _ h => h) (Or.inl ⟨by rfl, ?_⟩) ?_ ?_
    rotate_left
    · intro w'
      go_simp
      with_reducible rfl
    rotate_left
    · simp only [Act.put, List.setIfInBounds_toArray, List.set_cons_zero, List.set_cons_succ, i64_w, i32_w, xu32_w, xu8_w]
      rfl
    refine pure_ (i := 2) (N := some 22) (v := ?_) (a' := ?_) #[true, true, true, false, false, false, false, false, false, false, false, false, false, false, false, false, false, false, false] rfl rfl (any_of HT_.out (by kernel_rfl)) (fun _ _ _ h => h) (Or.inl ⟨by rfl, ?_⟩) ?_ ?_
    rotate_left
    · intro w'
      go_simp
      with_reducible rfl
    rotate_left
    · simp only [Act.put, List.setIfInBounds_toArray, List.set_cons_zero, List.set_cons_succ, i64_w, i32_w, xu32_w, xu8_w]
      rfl
    refine pure_ (i := 4) (N := some 24) (v := ?_) (a' := ?_) #[true, true, true, false, true, false, false, false, false, false, false, false, false, false, false, false, false, false, false] rfl rfl (any_of HT_.out (by kernel_rfl)) (fun _ _ _ h => h) (Or.inl ⟨by rfl, ?_⟩) ?_ ?_
    rotate_left
    · intro w'
      go_simp
      with_reducible rfl
    rotate_left
    · simp only [Act.put, List.setIfInBounds_toArray, List.set_cons_zero, List.set_cons_succ, i64_w, i32_w, xu32_w, xu8_w]
      rfl
    refine pure_ (i := 8) (N := some 28) (v := ?_) (a' := ?_) #[true, true, true, false, true, false, false, false, true, false, false, false, false, false, false, false, false, false, false] rfl rfl (any_of HT_.out (by kernel_rfl)) (fun _ _ _ h => h) (Or.inl ⟨by rfl, ?_⟩) ?_ ?_
    rotate_left
    · intro w'
      go_simp
      with_reducible rfl
    rotate_left
    · simp only [Act.put, List.setIfInBounds_toArray, List.set_cons_zero, List.set_cons_succ, i64_w, i32_w, xu32_w, xu8_w]
      rfl
    refine pure_ (i := 9) (N := some 29) (v := ?_) (a' := ?_) #[true, true, true, false, true, false, false, false, true, true, false, false, false, false, false, false, false, false, false] rfl rfl (any_of HT_.out (by kernel_rfl)) (fun _ _ _ h => h) (Or.inl ⟨by rfl, ?_⟩) ?_ ?_
    rotate_left
    · intro w'
      go_simp
      with_reducible rfl
    rotate_left
    · simp only [Act.put, List.setIfInBounds_toArray, List.set_cons_zero, List.set_cons_succ, i64_w, i32_w, xu32_w, xu8_w]
      rfl
    refine pure_ (i := 10) (N := some 30) (v := ?_) (a' := ?_) #[true, true, true, false, true, false, false, false, true, true, true, false, false, false, false, false, false, false, false] rfl rfl (any_of HT_.out (by kernel_rfl)) (fun _ _ _ h => h) (Or.inl ⟨by rfl, ?_⟩) ?_ ?_
    rotate_left
    · intro w'
      go_simp
      with_reducible rfl
    rotate_left
    · simp only [Act.put, List.setIfInBounds_toArray, List.set_cons_zero, List.set_cons_succ, i64_w, i32_w, xu32_w, xu8_w]
      rfl
    refine pure_ (i := 12) (N := some 32) (v := ?_) (a' := ?_) #[true, true, true, false, true, false, false, false, true, true, true, false, true, false, false, false, false, false, false] rfl rfl (any_of HT_.out (by kernel_rfl)) (fun _ _ _ h => h) (Or.inl ⟨by rfl, ?_⟩) ?_ ?_
    rotate_left
    · intro w'
      go_simp
      with_reducible rfl
    rotate_left
    · simp only [Act.put, List.setIfInBounds_toArray, List.set_cons_zero, List.set_cons_succ, i64_w, i32_w, xu32_w, xu8_w]
      rfl
    refine take_ (i := 3) (N := some 23) (v := ?_) (a' := ?_) #[true, true, true, true, true, false, false, false, true, true, true, false, true, false, false, false, false, false, false] rfl rfl (take_ofW HT_.out HW_.out (by kernel_rfl)) (fun _ _ _ h => h) (Or.inl ⟨by rfl, ?_⟩) hHeld ?_ ?_
    rotate_left
    · rintro w' ⟨s0, s1, s2⟩
      go_simp
      with_reducible rfl
    rotate_left
    · simp only [Act.put, List.setIfInBounds_toArray, List.set_cons_zero, List.set_cons_succ, i64_w, i32_w, xu32_w, xu8_w]
      rfl
    refine pure_ (i := 5) (N := some 25) (v := ?_) (a' := ?_) #[true, true, true, true, true, true, false, false, true, true, true, false, true, false, false, false, false, false, false] rfl rfl (any_of HT_.out (by kernel_rfl)) (fun _ _ _ h => h) (Or.inl ⟨by rfl, ?_⟩) ?_ ?_
    rotate_left
    · intro w'
      go_simp
      with_reducible rfl
    rotate_left
    · simp only [Act.put, List.setIfInBounds_toArray, List.set_cons_zero, List.set_cons_succ, i64_w, i32_w, xu32_w, xu8_w]
      rfl
    refine pure_ (i := 6) (N := some 26) (v := ?_) (a' := ?_) #[true, true, true, true, true, true, true, false, true, true, true, false, true, false, false, false, false, false, false] rfl rfl (any_of HT_.out (by kernel_rfl)) (fun _ _ _ h => h) (Or.inl ⟨by rfl, ?_⟩) ?_ ?_
    rotate_left
    · intro w'
      go_simp
      with_reducible rfl
    rotate_left
    · simp only [Act.put, List.setIfInBounds_toArray, List.set_cons_zero, List.set_cons_succ, i64_w, i32_w, xu32_w, xu8_w]
      rfl
    refine take_ (i := 7) (N := some 27) (v := ?_) (a' := ?_) #[true, true, true, true, true, true, true, true, true, true, true, false, true, false, false, false, false, false, false] rfl rfl (take_ofW HT_.out HW_.out (by kernel_rfl)) (fun _ _ _ h => h) (Or.inl ⟨by rfl, ?_⟩) hHeld ?_ ?_
    rotate_left
    · rintro w' ⟨s0, s1, s2⟩
      go_simp
      with_reducible rfl
    rotate_left
    · simp only [Act.put, List.setIfInBounds_toArray, List.set_cons_zero, List.set_cons_succ, i64_w, i32_w, xu32_w, xu8_w]
      rfl
    refine take_ (i := 11) (N := some 31) (v := ?_) (a' := ?_) #[true, true, true, true, true, true, true, true, true, true, true, true, true, false, false, false, false, false, false] rfl rfl (take_ofW HT_.out HW_.out (by kernel_rfl)) (fun _ _ _ h => h) (Or.inl ⟨by rfl, ?_⟩) hHeld ?_ ?_
    rotate_left
    · rintro w' ⟨s0, s1, s2⟩
      go_simp
      with_reducible rfl
    rotate_left
    · simp only [Act.put, List.setIfInBounds_toArray, List.set_cons_zero, List.set_cons_succ, i64_w, i32_w, xu32_w, xu8_w]
      rfl
    refine pure_ (i := 13) (N := some 33) (v := ?_) (a' := ?_) #[true, true, true, true, true, true, true, true, true, true, true, true, true, true, false, false, false, false, false] rfl rfl (any_of HT_.out (by kernel_rfl)) (fun _ _ _ h => h) (Or.inl ⟨by rfl, ?_⟩) ?_ ?_
    rotate_left
    · intro w'
      go_simp
      with_reducible rfl
    rotate_left
    · simp only [Act.put, List.setIfInBounds_toArray, List.set_cons_zero, List.set_cons_succ, i64_w, i32_w, xu32_w, xu8_w]
      rfl
    refine pure_ (i := 14) (N := some 34) (v := ?_) (a' := ?_) #[true, true, true, true, true, true, true, true, true, true, true, true, true, true, true, false, false, false, false] rfl rfl (any_of HT_.out (by kernel_rfl)) (fun _ _ _ h => h) (Or.inl ⟨by rfl, ?_⟩) ?_ ?_
    rotate_left
    · intro w'
      go_simp
      with_reducible rfl
    rotate_left
    · simp only [Act.put, List.setIfInBounds_toArray, List.set_cons_zero, List.set_cons_succ, i64_w, i32_w, xu32_w, xu8_w]
      rfl
    refine take_ (i := 15) (N := some 35) (v := ?_) (a' := ?_) #[true, true, true, true, true, true, true, true, true, true, true, true, true, true, true, true, false, false, false] rfl rfl (take_ofW HT_.out HW_.out (by kernel_rfl)) (fun _ _ _ h => h) (Or.inl ⟨by rfl, ?_⟩) hHeld ?_ ?_
    rotate_left
    · rintro w' ⟨s0, s1, s2⟩
      go_simp
      with_reducible rfl
    rotate_left
    · simp only [Act.put, List.setIfInBounds_toArray, List.set_cons_zero, List.set_cons_succ, i64_w, i32_w, xu32_w, xu8_w]
      rfl
    refine pure_ (i := 16) (N := some 36) (v := ?_) (a' := ?_) #[true, true, true, true, true, true, true, true, true, true, true, true, true, true, true, true, true, false, false] rfl rfl (any_of HT_.out (by kernel_rfl)) (fun _ _ _ h => h) (Or.inl ⟨by rfl, ?_⟩) ?_ ?_
    rotate_left
    · intro w'
      go_simp
      with_reducible rfl
    rotate_left
    · simp only [Act.put, List.setIfInBounds_toArray, List.set_cons_zero, List.set_cons_succ, i64_w, i32_w, xu32_w, xu8_w]
      rfl
    refine pure_ (i := 17) (N := some 37) (v := ?_) (a' := ?_) #[true, true, true, true, true, true, true, true, true, true, true, true, true, true, true, true, true, true, false] rfl rfl (any_of HT_.out (by kernel_rfl)) (fun _ _ _ h => h) (Or.inl ⟨by rfl, ?_⟩) ?_ ?_
    rotate_left
    · intro w'
      go_simp
      with_reducible rfl
    rotate_left
    · simp only [Act.put, List.setIfInBounds_toArray, List.set_cons_zero, List.set_cons_succ, i64_w, i32_w, xu32_w, xu8_w]
      rfl
    refine pure_ (i := 18) (N := some 19) (v := ?_) (a' := ?_) #[true, true, true, true, true, true, true, true, true, true, true, true, true, true, true, true, true, true, true] rfl rfl (any_of HT_.out (by kernel_rfl)) (fun _ _ _ h => h) (Or.inl ⟨by rfl, ?_⟩) ?_ ?_
    rotate_left
    · intro w'
      go_simp
      with_reducible rfl
    rotate_left
    · simp only [Act.put, List.setIfInBounds_toArray, List.set_cons_zero, List.set_cons_succ, i64_w, i32_w, xu32_w, xu8_w]
      rfl
    refine done_ (done_of HT_.out (by kernel_rfl)) ?_
    clear hHeld HT_ HW_
    have HD8 := Aside0.mk ((HD.out.below HB9.out).below HB8.out)
    go_wp2_with (first
      | (go_at_call 47; (with_reducible refine (rdrop_full (RefG.below HD8.out ?hb) ?hB HF.out s).mono ?_); (case hb => exact (by repeat (first | exact Below.refl _ _ | apply below_drew | apply below_alloc))); (case hB => exact swap_base HBB.out HB9.out HB8.out (by repeat (first | exact Below.refl _ _ | apply below_drew | apply below_alloc))); rintro e w5 ⟨rfl, hR, hC, hoff⟩; have HX := Aside0.mk (swap_cells (W := (w8.alloc (.cells #[.string f.n, .slice A1 f.b.length c1, .int .i64 f.l] 71)).drew) HD8.out (by repeat (first | exact Below.refl _ _ | apply below_drew | apply below_alloc)) (heap_alloc_new w8 (.cells #[.string f.n, .slice A1 f.b.length c1, .int .i64 f.l] 71)) hC hoff t); have HMM := Aside0.mk (swap_M (HD.out.below HB9.out) HM.out HB8.out (by repeat (first | exact Below.refl _ _ | apply below_drew | apply below_alloc)) hC t); have HCW := Aside0.mk ((Chg.of_below (fun k => k = g) (HB9.out.trans ((HB8.out.trans ((show Below w8.heap.size w8 _ from (by repeat (first | exact Below.refl _ _ | apply below_drew | apply below_alloc))).mono HB8.out.size)).mono HB9.out.size))).trans hC (fun _ _ e => e) (fun _ _ e => e)); obtain ⟨y0, y1, y2, y3⟩ := HX.out.1; clear hR hC hoff)
      | (go_at_call 46; (with_reducible refine (rput_calls HX.out.2.1 ?hB (drop_sorted s HSR.out) ?hf ⟨t, f.b, f.l⟩ A1 c1 HMM.out).mono ?_); (case hB => have h1 := HX.out.2.2; have h2 := HB8.out.size; have h3 := HB9.out.size; have h4 := HBB.out; simp; omega); (case hf => exact Nat.le_trans (List.length_filter_le _ _) HF.out); rintro e w7 ⟨rfl, hR, hC⟩; have HR7 := Aside0.mk hR; have HC7 := Aside0.mk hC; clear hR hC))
    go_ret
    refine ⟨rfl, HR7.out, ?_⟩
    have h6 := (Chg.refl (fun k => k = w8.heap.size) w5).set ⟨w8.heap.size, 0, none⟩ (.string t) rfl
    have hz9 := HB9.out.size
    have hz8 := HB8.out.size
    exact (HCW.out.trans h6 (U := fun k => k = g) (fun _ _ e => e) (fun k hk e => by have e' : k = w8.heap.size := e; omega)).trans HC7.out (fun _ _ e => e) (fun _ _ e => e)
end
end Go.Proofs.Ytkdbojaoaldmbaa.G

/- The document's disk by hand: two rows joined. -/
namespace Go.Proofs.Ytkdbojaoaldmbaa.G
open Go.RowKit Go.Proofs.Ytkdbojaoaldmbaa.Q Go.Proofs.YtkdbojaoaldmbaaW.PrintWords Go.Proofs.YtkdbojaoaldmbaaW.PrintLast Go.Proofs.YtkdbojaoaldmbaaW.PrintMore
set_option linter.unusedVariables false
set_option linter.unusedSimpArgs false
/-- Join of two rows. -/
theorem join_two (x y : List Int) (hx : x.length + y.length < 140737488355328) : manometerref01_Join.f 3 [x, y] = some (x ++ y) := by
  unfold manometerref01_Join.f manometerref01_Join.l0
  have h0 : rd_L3 [x, y] 0 = x := rfl
  have w1 : wrap64 (0 + 1) = 1 := by unfold wrap64; omega
  have h1 : rd_L3 [x, y] 1 = y := rfl
  have w2 : wrap64 (1 + 1) = 2 := by unfold wrap64; omega
  rw [if_pos (by simp), if_pos (by decide), if_pos (by simp), h0, if_pos (by simp; omega), w1]
  unfold manometerref01_Join.l0
  rw [if_pos (by simp), if_pos (by decide), if_pos (by simp), h1, if_pos (by simp; omega), w2]
  unfold manometerref01_Join.l0
  rw [if_neg (by simp)]
  simp
/-- A row of two rows. -/
theorem C_two {w : World} {g : Nat} {A A' : Option Addr} {x y : List Int} {c c' : Nat} (hc : w.cell? ⟨g, 0, none⟩ = some (.slice A x.length c)) (hl : x.length ≤ c) (hx : (Kd.int .u8).C w A x.length x)
    (hc' : w.cell? ⟨g, 1, none⟩ = some (.slice A' y.length c')) (hl' : y.length ≤ c') (hy : (Kd.int .u8).C w A' y.length y) : (Kd.slice 5 (Kd.int .u8)).C w (some ⟨g, 0, none⟩) [x, y].length [x, y] := by
  refine ⟨rfl, by simp, fun _ => ⟨_, rfl, fun j p hj => ?_⟩⟩
  match j with
  | 0 =>
    have : x = p := by simpa using hj
    subst this
    refine ⟨[.slice A x.length c], rfl, ⟨A, c, rfl, hl, hx⟩, fun i u hu => ?_⟩
    cases i with
    | zero =>
      have : Value.slice A x.length c = u := by simpa using hu
      subst this
      exact hc
    | succ i => simp at hu
  | 1 =>
    have : y = p := by simpa using hj
    subst this
    refine ⟨[.slice A' y.length c'], rfl, ⟨A', c', rfl, hl', hy⟩, fun i u hu => ?_⟩
    cases i with
    | zero =>
      have : Value.slice A' y.length c' = u := by simpa using hu
      subst this
      exact hc'
    | succ i => simp at hu
  | j + 2 => simp at hj
theorem join2_calls (W : World) (A : Option Addr) (x : List Int) (c : Nat) (hl : x.length ≤ c) (hx : (Kd.int .u8).C W A x.length x) (A' : Option Addr) (y : List Int) (c' : Nat) (hl' : y.length ≤ c') (hy : (Kd.int .u8).C W A' y.length y) (hb : x.length + y.length < 140737488355328) :
    Calls Try.prog 32 #[.slice (some ⟨W.heap.size, 0, none⟩) 2 2] (W.alloc (.cells #[.slice A x.length c, .slice A' y.length c'] 29)) fun e w' => ∃ v : Value, e = .returned v ∧ (Kd.int .u8).R 5 w' W.heap.size (fun k => W.heap.size ≤ k) v (x ++ y) ∧ Below W.heap.size W w' := by
  have hn := heap_alloc_new W (.cells #[.slice A x.length c, .slice A' y.length c'] 29)
  have hz : W.heap.size ≤ (W.alloc (.cells #[.slice A x.length c, .slice A' y.length c'] 29)).heap.size := (below_alloc (Below.refl _ _) _).size
  refine (manometerref01_Join.calls 3 (some ⟨W.heap.size, 0, none⟩) 2 [x, y] (x ++ y) _ (C_two ((blk_cell hn 0).trans rfl) hl (Kd.C_alloc hx _) ((blk_cell hn 1).trans rfl) hl' (Kd.C_alloc hy _)) (Nat.le_refl _) (join_two x y hb)).mono fun e w' ⟨v, he, hR, hb⟩ => ?_
  exact ⟨v, he, Kd.R_lower (Kd.R_mono (Kd.R_bound hR) (fun k hk => Nat.le_trans hz hk.2.1)) hz, below_step (below_alloc (Below.refl _ _) _) hb⟩
end Go.Proofs.Ytkdbojaoaldmbaa.G

/- The document's disk by hand: Append. -/
namespace Go.Proofs.Ytkdbojaoaldmbaa.G
open Go.RowKit Go.Proofs.Ytkdbojaoaldmbaa.Q Go.Proofs.YtkdbojaoaldmbaaW.PrintWords Go.Proofs.YtkdbojaoaldmbaaW.PrintLast Go.Proofs.YtkdbojaoaldmbaaW.PrintMore
set_option linter.unusedVariables false
set_option linter.unusedSimpArgs false
def rappend.T6 : Bool × List (List Nat × List Nat) := (true, [([], []), ([0], [0]), ([], []), ([2], [2]), ([3], [3]), ([4], [4]), ([], []), ([6], [6]), ([5, 7], [5, 7]), ([1, 8], [1, 8]), ([9, 7], [9])])
def rappend.B6 : List Nat := [0, 1, 0, 4, 12, 28, 0, 64, 252, 511, 1023]
theorem rappend.tab6 : rtab .any (opsOf Try.f35 6) = rappend.T6 := by kernel_rfl
theorem rappend.bits6 : waitsOk rappend.T6.2 rappend.B6 = true := by kernel_rfl
section
variable {w : World} {g B : Nat} {room : Int} {st : St}
theorem join2_at (w5 : World) (o : Obj) (A : Option Addr) (x : List Int) (c : Nat) (hl : x.length ≤ c) (hx : (Kd.int .u8).C w5 A x.length x) (A' : Option Addr) (y : List Int) (c' : Nat) (hl' : y.length ≤ c') (hy : (Kd.int .u8).C w5 A' y.length y) (hb : x.length + y.length < 140737488355328) :
    Calls Try.prog 32 #[.slice (some ⟨w5.heap.size + 1, 0, none⟩) 2 2] ((w5.alloc o).alloc (.cells #[.slice A x.length c, .slice A' y.length c'] 29)) fun e w' => ∃ v : Value, e = .returned v ∧ (Kd.int .u8).R 5 w' (w5.alloc o).heap.size (fun k => (w5.alloc o).heap.size ≤ k) v (x ++ y) ∧ Below (w5.alloc o).heap.size (w5.alloc o) w' := by
  have := join2_calls (w5.alloc o) A x c hl (Kd.C_alloc hx _) A' y c' hl' (Kd.C_alloc hy _) hb
  rw [show (w5.alloc o).heap.size = w5.heap.size + 1 by simp] at this ⊢
  exact this
theorem join0_at (w5 : World) (o : Obj) (A' : Option Addr) (y : List Int) (c' : Nat) (hl' : y.length ≤ c') (hy : (Kd.int .u8).C w5 A' y.length y) (hb : y.length < 140737488355328) :
    Calls Try.prog 32 #[.slice (some ⟨w5.heap.size + 1, 0, none⟩) 2 2] ((w5.alloc o).alloc (.cells #[.slice none 0 0, .slice A' y.length c'] 29)) fun e w' => ∃ v : Value, e = .returned v ∧ (Kd.int .u8).R 5 w' (w5.alloc o).heap.size (fun k => (w5.alloc o).heap.size ≤ k) v y ∧ Below (w5.alloc o).heap.size (w5.alloc o) w' :=
  join2_at w5 o none [] 0 (Nat.le_refl _) (Kd.C_nil _ _) A' y c' hl' hy (by simpa using hb)
theorem app_ready {w5 w6 : World} {n : ByteArray} {v0 : Value} {l : Int} {A6 : Option Addr} {c6 : Nat} {b : List Int} (h5 : RefG w5 g B room st) (hB5 : B ≤ w5.heap.size) (hb : Below (w5.alloc (.cells #[.string n, v0, .int .i64 l] 71)).heap.size (w5.alloc (.cells #[.string n, v0, .int .i64 l] 71)) w6)
    (hR : (Kd.int .u8).R 5 w6 (w5.alloc (.cells #[.string n, v0, .int .i64 l] 71)).heap.size (fun k => (w5.alloc (.cells #[.string n, v0, .int .i64 l] 71)).heap.size ≤ k) (.slice A6 b.length c6) b) :
    (w6.cell? ⟨w5.heap.size, 0, none⟩ = some (.string n) ∧ w6.cell? ⟨w5.heap.size, 1, none⟩ = some v0 ∧ w6.cell? ⟨w5.heap.size, 2, none⟩ = some (.int .i64 l) ∧ w6.frozen? ⟨w5.heap.size, 1, none⟩ = false) ∧ RefG (w6.setCell ⟨w5.heap.size, 1, none⟩ (.slice A6 b.length c6)) g B room st ∧ B ≤ (w6.setCell ⟨w5.heap.size, 1, none⟩ (.slice A6 b.length c6)).heap.size ∧
      k71.M (w6.setCell ⟨w5.heap.size, 1, none⟩ (.slice A6 b.length c6)) B (fun k => B ≤ k ∧ k < (w6.setCell ⟨w5.heap.size, 1, none⟩ (.slice A6 b.length c6)).heap.size) (toS ⟨n, b, l⟩) [.string n, .slice A6 b.length c6, .int .i64 l] ∧ Below w5.heap.size w5 (w6.setCell ⟨w5.heap.size, 1, none⟩ (.slice A6 b.length c6)) := by
  have hsz : (w5.alloc (.cells #[.string n, v0, .int .i64 l] 71)).heap.size = w5.heap.size + 1 := by simp
  have h6 := (hb.block w5.heap.size (by omega)).trans (heap_alloc_new w5 (.cells #[.string n, v0, .int .i64 l] 71))
  have hz := hb.size
  have hb7 : Below w5.heap.size w5 (w6.setCell ⟨w5.heap.size, 1, none⟩ (.slice A6 b.length c6)) := by
    have h1 := below_step (below_alloc (Below.refl w5.heap.size w5) (.cells #[.string n, v0, .int .i64 l] 71)) hb
    exact ⟨h1.os, h1.tape, h1.output, by simp; omega, fun k hk => (Below.heap_setCell _ _ _ k (fun e => by have e' : k = w5.heap.size := e; omega)).trans (h1.block k hk)⟩
  refine ⟨⟨(blk_cell h6 0).trans rfl, (blk_cell h6 1).trans rfl, (blk_cell h6 2).trans rfl, blk_frozen h6 1⟩, h5.below hb7, by simp; omega, ?_, hb7⟩
  have hR7 := Kd.R_step (w1 := w6.setCell ⟨w5.heap.size, 1, none⟩ (.slice A6 b.length c6)) (Kd.R_bound hR) (fun k hk _ => Below.heap_setCell _ _ _ k (fun e => by have e' : k = w5.heap.size := e; have := hk.1; omega))
  exact k71_mkM _ B _ ⟨n, b, l⟩ (Kd.R_lower (base' := B) (Kd.R_mono hR7 (ok' := fun k => B ≤ k ∧ k < (w6.setCell ⟨w5.heap.size, 1, none⟩ (.slice A6 b.length c6)).heap.size) (fun k hk => by have h1 := hk.1; have h2 := hk.2.2.1; simp; omega)) (by omega))
set_option maxHeartbeats 1000000 in
set_option maxRecDepth 100000 in
theorem rappend_none (h : RefG w g B room st) (hB : B ≤ w.heap.size) (hs : Sorted st) (hfew : st.length ≤ 100000) (hfit : (total st : Int) ≤ room) (hroom : room ≤ 16777216) (s : ByteArray) (hsz : s.size ≤ 9223372036854775807) (A : Option Addr) (c : Nat) (x : List Int) (hc : x.length ≤ c) (hx : (Kd.int .u8).C w A x.length x) (hl : look st s = none) (hxb : x.length < 140737488355328) :
    Calls Try.prog 35 #[.pointer (some ⟨g, 0, none⟩), .string s, .slice A x.length c] w fun e w' => e = .returned (.int .i64 (appendE room st s x)) ∧ RefG w' g B room (appendS room st s x) ∧ Chg (fun k => k = g) w w' := by
  have HD := Aside0.mk h
  have HF := Aside0.mk hfew
  have HSR := Aside0.mk hs
  have HBB := Aside0.mk hB
  have HL := Aside0.mk hl
  have HX := Aside0.mk (And.intro hc hx)
  have HFT := Aside0.mk (And.intro hfit (And.intro hroom hxb))
  clear h hs hB hl hc hx hfit hroom hxb
  by_cases ht : titleB s = true
  case neg =>
    have e1 : appendE room st s x = 110 := by unfold appendE; exact if_neg ht
    have e2 : appendS room st s x = st := by unfold appendS; exact if_neg ht
    have ht' : titleB s = false := by simpa using ht
    rw [e1, e2]
    clear e1 e2 ht
    go_enter Try.func35, Try.ntmps35
    go_wp2_with (first
      | (go_at_call 42; (with_reducible refine (at_none HD.out HF.out s HL.out).mono ?_); rintro e w9 ⟨rfl, hb⟩; have HB9 := Aside0.mk hb; have HD9 := Aside0.mk (HD.out.below hb); clear hb)
      | (go_at_call 45; (with_reducible refine (rtitle_calls s hsz _).mono ?_); rintro e w8 ⟨rfl, hw8⟩; rw [ht']; have hb := drawn_below hw8; have HB8 := Aside0.mk hb; have HD8 := Aside0.mk (HD9.out.below hb); obtain ⟨A0, c0, d1, d2, d3⟩ := HD8.out.slice; have g0 : w8.cell? ⟨g, 0, none⟩ = some (.int .i64 room) := (blk_cell d1 0).trans rfl; have g1 : w8.cell? ⟨g, 1, none⟩ = some (.slice A0 st.length c0) := (blk_cell d1 1).trans rfl; clear hw8 hb d1 d2 d3))
    go_ret
    exact ⟨rfl, HD8.out, Chg.of_below _ (HB9.out.trans (HB8.out.mono HB9.out.size))⟩
  case pos =>
  by_cases h64 : (st.length : Int) ≥ 64
  case pos =>
    have e1 : appendE room st s x = 3 := by unfold appendE; exact (if_pos ht).trans (if_pos ⟨HL.out, by omega⟩)
    have e2 : appendS room st s x = st := by unfold appendS; exact (if_pos ht).trans (if_pos ⟨HL.out, by omega⟩)
    rw [e1, e2]
    clear e1 e2
    go_enter Try.func35, Try.ntmps35
    go_wp2_with (first
      | (go_at_call 42; (with_reducible refine (at_none HD.out HF.out s HL.out).mono ?_); rintro e w9 ⟨rfl, hb⟩; have HB9 := Aside0.mk hb; have HD9 := Aside0.mk (HD.out.below hb); clear hb)
      | (go_at_call 45; (with_reducible refine (rtitle_calls s hsz _).mono ?_); rintro e w8 ⟨rfl, hw8⟩; rw [ht]; have hb := drawn_below hw8; have HB8 := Aside0.mk hb; have HD8 := Aside0.mk (HD9.out.below hb); obtain ⟨A0, c0, d1, d2, d3⟩ := HD8.out.slice; have g0 : w8.cell? ⟨g, 0, none⟩ = some (.int .i64 room) := (blk_cell d1 0).trans rfl; have g1 : w8.cell? ⟨g, 1, none⟩ = some (.slice A0 st.length c0) := (blk_cell d1 1).trans rfl; clear hw8 hb d1 d2 d3))
    go_ret
    exact ⟨rfl, HD8.out, Chg.of_below _ (HB9.out.trans (HB8.out.mono HB9.out.size))⟩
  case neg =>
  have hne : ¬ (look st s = none ∧ 64 ≤ st.length) := fun e => h64 (by omega)
  have hwr : wrap64 (room - (total st : Int)) = room - total st := by have h1 := HFT.out; exact wrap_id (by omega) (by omega)
  by_cases hfull : (x.length : Int) > room - total st
  case pos =>
    have e1 : appendE room st s x = 5 := by unfold appendE; exact (if_pos ht).trans ((if_neg hne).trans (if_pos hfull))
    have e2 : appendS room st s x = st := by unfold appendS; exact (if_pos ht).trans ((if_neg hne).trans (if_pos hfull))
    rw [e1, e2]
    clear e1 e2 hne
    go_enter Try.func35, Try.ntmps35
    go_wp2_with (first
      | (go_at_call 42; (with_reducible refine (at_none HD.out HF.out s HL.out).mono ?_); rintro e w9 ⟨rfl, hb⟩; have HB9 := Aside0.mk hb; have HD9 := Aside0.mk (HD.out.below hb); clear hb)
      | (go_at_call 45; (with_reducible refine (rtitle_calls s hsz _).mono ?_); rintro e w8 ⟨rfl, hw8⟩; rw [ht]; have hb := drawn_below hw8; have HB8 := Aside0.mk hb; have HD8 := Aside0.mk (HD9.out.below hb); obtain ⟨A0, c0, d1, d2, d3⟩ := HD8.out.slice; have g0 : w8.cell? ⟨g, 0, none⟩ = some (.int .i64 room) := (blk_cell d1 0).trans rfl; have g1 : w8.cell? ⟨g, 1, none⟩ = some (.slice A0 st.length c0) := (blk_cell d1 1).trans rfl; clear hw8 hb d1 d2 d3))
    refine start_ (n := 11) (S := fun w' => w'.cell? ⟨g, 0, none⟩ = some (.int .i64 room)) (ds := []) #[false, false, false, false, false, false, false, false, false, false, false] (by kernel_rfl) rfl rfl g0 (fun hHeld => ?_); refine with_tabW rappend.tab6 rappend.bits6 (fun HT_ HW_ => ?_)
    refine pure_ (i := 0) (N := some 28) (v := ?_) (a' := ?_) #[true, false, false, false, false, false, false, false, false, false, false] rfl rfl (any_of HT_.out (by kernel_rfl)) (fun _ _ _ h => h) (Or.inl ⟨by rfl, ?_⟩) ?_ ?_
    rotate_left
    · intro w'
      go_simp
      with_reducible rfl
    rotate_left
    · simp only [Act.put, List.setIfInBounds_toArray, List.set_cons_zero, List.set_cons_succ, i64_w, i32_w, xu32_w, xu8_w]
      rfl
    refine pure_ (i := 1) (N := some 29) (v := ?_) (a' := ?_) #[true, true, false, false, false, false, false, false, false, false, false] rfl rfl (any_of HT_.out (by kernel_rfl)) (fun _ _ _ h => h) (Or.inl ⟨by rfl, ?_⟩) ?_ ?_
    rotate_left
    · intro w'
      go_simp
      with_reducible rfl
    rotate_left
    · simp only [Act.put, List.setIfInBounds_toArray, List.set_cons_zero, List.set_cons_succ, i64_w, i32_w, xu32_w, xu8_w]
      rfl
    refine pure_ (i := 2) (N := some 30) (v := ?_) (a' := ?_) #[true, true, true, false, false, false, false, false, false, false, false] rfl rfl (any_of HT_.out (by kernel_rfl)) (fun _ _ _ h => h) (Or.inl ⟨by rfl, ?_⟩) ?_ ?_
    rotate_left
    · intro w'
      go_simp
      with_reducible rfl
    rotate_left
    · simp only [Act.put, List.setIfInBounds_toArray, List.set_cons_zero, List.set_cons_succ, i64_w, i32_w, xu32_w, xu8_w]
      rfl
    refine pure_ (i := 3) (N := some 31) (v := ?_) (a' := ?_) #[true, true, true, true, false, false, false, false, false, false, false] rfl rfl (any_of HT_.out (by kernel_rfl)) (fun _ _ _ h => h) (Or.inl ⟨by rfl, ?_⟩) ?_ ?_
    rotate_left
    · intro w'
      go_simp
      with_reducible rfl
    rotate_left
    · simp only [Act.put, List.setIfInBounds_toArray, List.set_cons_zero, List.set_cons_succ, i64_w, i32_w, xu32_w, xu8_w]
      rfl
    refine pure_ (i := 4) (N := some 32) (v := ?_) (a' := ?_) #[true, true, true, true, true, false, false, false, false, false, false] rfl rfl (any_of HT_.out (by kernel_rfl)) (fun _ _ _ h => h) (Or.inl ⟨by rfl, ?_⟩) ?_ ?_
    rotate_left
    · intro w'
      go_simp
      with_reducible rfl
    rotate_left
    · simp only [Act.put, List.setIfInBounds_toArray, List.set_cons_zero, List.set_cons_succ, i64_w, i32_w, xu32_w, xu8_w]
      rfl
    refine pure_ (i := 6) (N := some 34) (v := ?_) (a' := ?_) #[true, true, true, true, true, false, true, false, false, false, false] rfl rfl (any_of HT_.out (by kernel_rfl)) (fun _ _ _ h => h) (Or.inl ⟨by rfl, ?_⟩) ?_ ?_
    rotate_left
    · intro w'
      go_simp
      with_reducible rfl
    rotate_left
    · simp only [Act.put, List.setIfInBounds_toArray, List.set_cons_zero, List.set_cons_succ, i64_w, i32_w, xu32_w, xu8_w]
      rfl
    refine take_ (i := 5) (N := some 33) (v := ?_) (a' := ?_) #[true, true, true, true, true, true, true, false, false, false, false] rfl rfl (take_ofW HT_.out HW_.out (by kernel_rfl)) (fun _ _ _ h => h) (Or.inl ⟨by rfl, ?_⟩) hHeld ?_ ?_
    rotate_left
    · rintro w' s0
      go_simp
      with_reducible rfl
    rotate_left
    · simp only [Act.put, List.setIfInBounds_toArray, List.set_cons_zero, List.set_cons_succ, i64_w, i32_w, xu32_w, xu8_w]
      rfl
    refine one_ (i := 7) (N := some 35) #[true, true, true, true, true, true, true, true, false, false, false] rfl rfl (one_of HT_.out (by kernel_rfl)) (by decide) (fun K hK => ?_)
    refine goes_ Try.func41 (by kernel_rfl) rfl #[.pointer (some ⟨g, 0, none⟩)] (by rfl) rfl rfl (by (try simp only [List.map_toArray, List.map_cons, List.map_nil]); first | done | rfl) ?_
    with_reducible refine (rsize_calls (HD8.out.below (below_drew (Below.refl _ _))) HF.out (by have := HFT.out; omega)).mono ?_
    rintro e w5 ⟨rfl, hb5⟩
    refine ⟨_, rfl, ?_⟩
    have hb85 : Below w8.heap.size w8 w5 := ⟨hb5.os, hb5.tape, hb5.output, hb5.size, hb5.block⟩
    have HB5 := Aside0.mk hb85
    have HD5 := Aside0.mk (HD8.out.below hb85)
    refine hK.out _ _ (pw_cell_below hb85 g0) (fun hHeld => ?_)
    clear hK K hb5 hb85
    refine norm_ (a' := ?_) ?_ ?_
    rotate_left
    · show Act.put _ (some 35) _ = _
      simp only [Act.put, List.setIfInBounds_toArray, List.set_cons_zero, List.set_cons_succ, i64_w, i32_w, xu32_w, xu8_w]
      rfl
    refine pure_ (i := 8) (N := some 36) (v := ?_) (a' := ?_) #[true, true, true, true, true, true, true, true, true, false, false] rfl rfl (any_of HT_.out (by kernel_rfl)) (fun _ _ _ h => h) (Or.inl ⟨by rfl, ?_⟩) ?_ ?_
    rotate_left
    · intro w'
      go_simp
      with_reducible rfl
    rotate_left
    · simp only [Act.put, List.setIfInBounds_toArray, List.set_cons_zero, List.set_cons_succ, i64_w, i32_w, xu32_w, xu8_w]
      rfl
    refine pure_ (i := 9) (N := some 37) (v := ?_) (a' := ?_) #[true, true, true, true, true, true, true, true, true, true, false] rfl rfl (any_of HT_.out (by kernel_rfl)) (fun _ _ _ h => h) (Or.inl ⟨by rfl, ?_⟩) ?_ ?_
    rotate_left
    · intro w'
      go_simp
      with_reducible rfl
    rotate_left
    · simp only [Act.put, List.setIfInBounds_toArray, List.set_cons_zero, List.set_cons_succ, i64_w, i32_w, xu32_w, xu8_w]
      rfl
    refine pure_ (i := 10) (N := some 27) (v := ?_) (a' := ?_) #[true, true, true, true, true, true, true, true, true, true, true] rfl rfl (any_of HT_.out (by kernel_rfl)) (fun _ _ _ h => h) (Or.inl ⟨by rfl, ?_⟩) ?_ ?_
    rotate_left
    · intro w'
      go_simp
      with_reducible rfl
    rotate_left
    · simp only [Act.put, List.setIfInBounds_toArray, List.set_cons_zero, List.set_cons_succ, i64_w, i32_w, xu32_w, xu8_w]
      rfl
    refine done_ (done_of HT_.out (by kernel_rfl)) ?_
    clear hHeld HT_ HW_
    go_wp2_with (fail)
    go_ret
    exact ⟨rfl, HD5.out, Chg.of_below _ ((HB9.out.trans (HB8.out.mono HB9.out.size)).trans (HB5.out.mono (HB9.out.trans (HB8.out.mono HB9.out.size)).size))⟩
  case neg =>
  have e1 : appendE room st s x = 0 := by unfold appendE; exact (if_pos ht).trans ((if_neg hne).trans (if_neg hfull))
  have e2 : appendS room st s x = put st ⟨s, x, 0⟩ := by
    unfold appendS
    refine (if_pos ht).trans ((if_neg hne).trans ((if_neg hfull).trans ?_))
    unfold appS oldB oldL
    rw [HL.out]; rfl
  rw [e1, e2]
  clear e1 e2 hne
  go_enter Try.func35, Try.ntmps35
  go_wp2_with (first
    | (go_at_call 42; (with_reducible refine (at_none HD.out HF.out s HL.out).mono ?_); rintro e w9 ⟨rfl, hb⟩; have HB9 := Aside0.mk hb; have HD9 := Aside0.mk (HD.out.below hb); clear hb)
    | (go_at_call 45; (with_reducible refine (rtitle_calls s hsz _).mono ?_); rintro e w8 ⟨rfl, hw8⟩; rw [ht]; have hb := drawn_below hw8; have HB8 := Aside0.mk hb; have HD8 := Aside0.mk (HD9.out.below hb); obtain ⟨A0, c0, d1, d2, d3⟩ := HD8.out.slice; have g0 : w8.cell? ⟨g, 0, none⟩ = some (.int .i64 room) := (blk_cell d1 0).trans rfl; have g1 : w8.cell? ⟨g, 1, none⟩ = some (.slice A0 st.length c0) := (blk_cell d1 1).trans rfl; clear hw8 hb d1 d2 d3))
  refine start_ (n := 11) (S := fun w' => w'.cell? ⟨g, 0, none⟩ = some (.int .i64 room)) (ds := []) #[false, false, false, false, false, false, false, false, false, false, false] (by kernel_rfl) rfl rfl g0 (fun hHeld => ?_); refine with_tabW rappend.tab6 rappend.bits6 (fun HT_ HW_ => ?_)
  refine pure_ (i := 0) (N := some 28) (v := ?_) (a' := ?_) #[true, false, false, false, false, false, false, false, false, false, false] rfl rfl (any_of HT_.out (by kernel_rfl)) (fun _ _ _ h => h) (Or.inl ⟨by rfl, ?_⟩) ?_ ?_
  rotate_left
  · intro w'
    go_simp
    with_reducible rfl
  rotate_left
  · simp only [Act.put, List.setIfInBounds_toArray, List.set_cons_zero, List.set_cons_succ, i64_w, i32_w, xu32_w, xu8_w]
    rfl
  refine pure_ (i := 1) (N := some 29) (v := ?_) (a' := ?_) #[true, true, false, false, false, false, false, false, false, false, false] rfl rfl (any_of HT_.out (by kernel_rfl)) (fun _ _ _ h => h) (Or.inl ⟨by rfl, ?_⟩) ?_ ?_
  rotate_left
  · intro w'
    go_simp
    with_reducible rfl
  rotate_left
  · simp only [Act.put, List.setIfInBounds_toArray, List.set_cons_zero, List.set_cons_succ, i64_w, i32_w, xu32_w, xu8_w]
    rfl
  refine pure_ (i := 2) (N := some 30) (v := ?_) (a' := ?_) #[true, true, true, false, false, false, false, false, false, false, false] rfl rfl (any_of HT_.out (by kernel_rfl)) (fun _ _ _ h => h) (Or.inl ⟨by rfl, ?_⟩) ?_ ?_
  rotate_left
  · intro w'
    go_simp
    with_reducible rfl
  rotate_left
  · simp only [Act.put, List.setIfInBounds_toArray, List.set_cons_zero, List.set_cons_succ, i64_w, i32_w, xu32_w, xu8_w]
    rfl
  refine pure_ (i := 3) (N := some 31) (v := ?_) (a' := ?_) #[true, true, true, true, false, false, false, false, false, false, false] rfl rfl (any_of HT_.out (by kernel_rfl)) (fun _ _ _ h => h) (Or.inl ⟨by rfl, ?_⟩) ?_ ?_
  rotate_left
  · intro w'
    go_simp
    with_reducible rfl
  rotate_left
  · simp only [Act.put, List.setIfInBounds_toArray, List.set_cons_zero, List.set_cons_succ, i64_w, i32_w, xu32_w, xu8_w]
    rfl
  refine pure_ (i := 4) (N := some 32) (v := ?_) (a' := ?_) #[true, true, true, true, true, false, false, false, false, false, false] rfl rfl (any_of HT_.out (by kernel_rfl)) (fun _ _ _ h => h) (Or.inl ⟨by rfl, ?_⟩) ?_ ?_
  rotate_left
  · intro w'
    go_simp
    with_reducible rfl
  rotate_left
  · simp only [Act.put, List.setIfInBounds_toArray, List.set_cons_zero, List.set_cons_succ, i64_w, i32_w, xu32_w, xu8_w]
    rfl
  refine pure_ (i := 6) (N := some 34) (v := ?_) (a' := ?_) #[true, true, true, true, true, false, true, false, false, false, false] rfl rfl (any_of HT_.out (by kernel_rfl)) (fun _ _ _ h => h) (Or.inl ⟨by rfl, ?_⟩) ?_ ?_
  rotate_left
  · intro w'
    go_simp
    with_reducible rfl
  rotate_left
  · simp only [Act.put, List.setIfInBounds_toArray, List.set_cons_zero, List.set_cons_succ, i64_w, i32_w, xu32_w, xu8_w]
    rfl
  refine take_ (i := 5) (N := some 33) (v := ?_) (a' := ?_) #[true, true, true, true, true, true, true, false, false, false, false] rfl rfl (take_ofW HT_.out HW_.out (by kernel_rfl)) (fun _ _ _ h => h) (Or.inl ⟨by rfl, ?_⟩) hHeld ?_ ?_
  rotate_left
  · rintro w' s0
    go_simp
    with_reducible rfl
  rotate_left
  · simp only [Act.put, List.setIfInBounds_toArray, List.set_cons_zero, List.set_cons_succ, i64_w, i32_w, xu32_w, xu8_w]
    rfl
  refine one_ (i := 7) (N := some 35) #[true, true, true, true, true, true, true, true, false, false, false] rfl rfl (one_of HT_.out (by kernel_rfl)) (by decide) (fun K hK => ?_)
  refine goes_ Try.func41 (by kernel_rfl) rfl #[.pointer (some ⟨g, 0, none⟩)] (by rfl) rfl rfl (by (try simp only [List.map_toArray, List.map_cons, List.map_nil]); first | done | rfl) ?_
  with_reducible refine (rsize_calls (HD8.out.below (below_drew (Below.refl _ _))) HF.out (by have := HFT.out; omega)).mono ?_
  rintro e w5 ⟨rfl, hb5⟩
  refine ⟨_, rfl, ?_⟩
  have hb85 : Below w8.heap.size w8 w5 := ⟨hb5.os, hb5.tape, hb5.output, hb5.size, hb5.block⟩
  have HB5 := Aside0.mk hb85
  have HD5 := Aside0.mk (HD8.out.below hb85)
  refine hK.out _ _ (pw_cell_below hb85 g0) (fun hHeld => ?_)
  clear hK K hb5 hb85
  refine norm_ (a' := ?_) ?_ ?_
  rotate_left
  · show Act.put _ (some 35) _ = _
    simp only [Act.put, List.setIfInBounds_toArray, List.set_cons_zero, List.set_cons_succ, i64_w, i32_w, xu32_w, xu8_w]
    rfl
  refine pure_ (i := 8) (N := some 36) (v := ?_) (a' := ?_) #[true, true, true, true, true, true, true, true, true, false, false] rfl rfl (any_of HT_.out (by kernel_rfl)) (fun _ _ _ h => h) (Or.inl ⟨by rfl, ?_⟩) ?_ ?_
  rotate_left
  · intro w'
    go_simp
    with_reducible rfl
  rotate_left
  · simp only [Act.put, List.setIfInBounds_toArray, List.set_cons_zero, List.set_cons_succ, i64_w, i32_w, xu32_w, xu8_w]
    rfl
  refine pure_ (i := 9) (N := some 37) (v := ?_) (a' := ?_) #[true, true, true, true, true, true, true, true, true, true, false] rfl rfl (any_of HT_.out (by kernel_rfl)) (fun _ _ _ h => h) (Or.inl ⟨by rfl, ?_⟩) ?_ ?_
  rotate_left
  · intro w'
    go_simp
    with_reducible rfl
  rotate_left
  · simp only [Act.put, List.setIfInBounds_toArray, List.set_cons_zero, List.set_cons_succ, i64_w, i32_w, xu32_w, xu8_w]
    rfl
  refine pure_ (i := 10) (N := some 27) (v := ?_) (a' := ?_) #[true, true, true, true, true, true, true, true, true, true, true] rfl rfl (any_of HT_.out (by kernel_rfl)) (fun _ _ _ h => h) (Or.inl ⟨by rfl, ?_⟩) ?_ ?_
  rotate_left
  · intro w'
    go_simp
    with_reducible rfl
  rotate_left
  · simp only [Act.put, List.setIfInBounds_toArray, List.set_cons_zero, List.set_cons_succ, i64_w, i32_w, xu32_w, xu8_w]
    rfl
  refine done_ (done_of HT_.out (by kernel_rfl)) ?_
  clear hHeld HT_ HW_
  have HW5 := Aside0.mk ((HB9.out.trans (HB8.out.mono HB9.out.size)).trans (HB5.out.mono (HB9.out.trans (HB8.out.mono HB9.out.size)).size))
  have HX5 := Aside0.mk (Kd.C_below HX.out.2 HW5.out)
  go_wp2_with (first
    | (go_at_call 32; (with_reducible refine (join0_at w5 (.cells #[.string s, .slice none 0 0, .int .i64 0] 71) A x c HX.out.1 HX5.out HFT.out.2.2).mono ?_); rintro e w6 ⟨v6, rfl, hR, hb⟩; obtain ⟨A6, c6, hv⟩ := Kd.R_slice hR; subst hv; have HA := Aside0.mk (app_ready HD5.out (Nat.le_trans HBB.out HW5.out.size) hb hR); obtain ⟨y0, y1, y2, y3⟩ := HA.out.1; clear hR hb)
    | (go_at_call 46; (with_reducible refine (rput_calls HA.out.2.1 HA.out.2.2.1 HSR.out HF.out ⟨s, x, 0⟩ A6 c6 HA.out.2.2.2.1).mono ?_); rintro e w7 ⟨rfl, hR, hC⟩; have HR7 := Aside0.mk hR; have HC7 := Aside0.mk hC; clear hR hC))
  go_ret
  exact ⟨rfl, HR7.out, (Chg.of_below (fun k => k = g) (HW5.out.trans (HA.out.2.2.2.2.mono HW5.out.size))).trans HC7.out (fun _ _ e => e) (fun _ _ e => e)⟩
end
end Go.Proofs.Ytkdbojaoaldmbaa.G

/- The document's disk by hand: Append to a file that is there. -/
namespace Go.Proofs.Ytkdbojaoaldmbaa.G
open Go.RowKit Go.Proofs.Ytkdbojaoaldmbaa.Q Go.Proofs.YtkdbojaoaldmbaaW.PrintWords Go.Proofs.YtkdbojaoaldmbaaW.PrintLast Go.Proofs.YtkdbojaoaldmbaaW.PrintMore
set_option linter.unusedVariables false
set_option linter.unusedSimpArgs false
section
variable {w : World} {g B : Nat} {room : Int} {st : St}
set_option maxHeartbeats 1000000 in
set_option maxRecDepth 100000 in
theorem rappend_some (h : RefG w g B room st) (hB : B ≤ w.heap.size) (hs : Sorted st) (hfew : st.length ≤ 100000) (hfit : (total st : Int) ≤ room) (hroom : room ≤ 16777216) (s : ByteArray) (hsz : s.size ≤ 9223372036854775807) (A : Option Addr) (c : Nat) (x : List Int) (hc : x.length ≤ c) (hx : (Kd.int .u8).C w A x.length x) {f : FS} (hl : look st s = some f) (hxb : x.length < 140737488355328) :
    Calls Try.prog 35 #[.pointer (some ⟨g, 0, none⟩), .string s, .slice A x.length c] w fun e w' => e = .returned (.int .i64 (appendE room st s x)) ∧ RefG w' g B room (appendS room st s x) ∧ Chg (fun k => k = g) w w' := by
  have HD := Aside0.mk h
  have HF := Aside0.mk hfew
  have HSR := Aside0.mk hs
  have HBB := Aside0.mk hB
  have HL := Aside0.mk hl
  have HX := Aside0.mk (And.intro hc hx)
  have HFT := Aside0.mk (And.intro hfit (And.intro hroom hxb))
  clear h hs hB hl hc hx hfit hroom hxb
  by_cases ht : titleB s = true
  case neg =>
    have e1 : appendE room st s x = 110 := by unfold appendE; exact if_neg ht
    have e2 : appendS room st s x = st := by unfold appendS; exact if_neg ht
    have ht' : titleB s = false := by simpa using ht
    rw [e1, e2]
    clear e1 e2 ht
    go_enter Try.func35, Try.ntmps35
    go_wp2_with (first
      | (go_at_call 42; (with_reducible refine (at_some HD.out HF.out s HL.out).mono ?_); rintro e w9 ⟨i, hi, rfl, hb⟩; have HB9 := Aside0.mk hb; have HD9 := Aside0.mk (HD.out.below hb); have HI := Aside0.mk hi; have hi0 : ¬ (i : Int) < 0 := (by omega); have hi2 : (i : Int) ≥ 0 := (by omega); clear hb hi)
      | (go_at_call 45; (with_reducible refine (rtitle_calls s hsz _).mono ?_); rintro e w8 ⟨rfl, hw8⟩; rw [ht']; have hb := drawn_below hw8; have HB8 := Aside0.mk hb; have HD8 := Aside0.mk (HD9.out.below hb); obtain ⟨A0, c0, d1, d2, d3⟩ := HD8.out.slice; have g0 : w8.cell? ⟨g, 0, none⟩ = some (.int .i64 room) := (blk_cell d1 0).trans rfl; clear hw8 hb d1 d2 d3))
    go_ret
    exact ⟨rfl, HD8.out, Chg.of_below _ (HB9.out.trans (HB8.out.mono HB9.out.size))⟩
  case pos =>
  have hne : ¬ (look st s = none ∧ 64 ≤ st.length) := fun e => by rw [HL.out] at e; cases e.1
  have hwr : wrap64 (room - (total st : Int)) = room - total st := by have h1 := HFT.out; exact wrap_id (by omega) (by omega)
  by_cases hfull : (x.length : Int) > room - total st
  case pos =>
    have e1 : appendE room st s x = 5 := by unfold appendE; exact (if_pos ht).trans ((if_neg hne).trans (if_pos hfull))
    have e2 : appendS room st s x = st := by unfold appendS; exact (if_pos ht).trans ((if_neg hne).trans (if_pos hfull))
    rw [e1, e2]
    clear e1 e2 hne
    go_enter Try.func35, Try.ntmps35
    go_wp2_with (first
      | (go_at_call 42; (with_reducible refine (at_some HD.out HF.out s HL.out).mono ?_); rintro e w9 ⟨i, hi, rfl, hb⟩; have HB9 := Aside0.mk hb; have HD9 := Aside0.mk (HD.out.below hb); have HI := Aside0.mk hi; have hi0 : ¬ (i : Int) < 0 := (by omega); have hi2 : (i : Int) ≥ 0 := (by omega); clear hb hi)
      | (go_at_call 45; (with_reducible refine (rtitle_calls s hsz _).mono ?_); rintro e w8 ⟨rfl, hw8⟩; rw [ht]; have hb := drawn_below hw8; have HB8 := Aside0.mk hb; have HD8 := Aside0.mk (HD9.out.below hb); obtain ⟨A0, c0, d1, d2, d3⟩ := HD8.out.slice; have g0 : w8.cell? ⟨g, 0, none⟩ = some (.int .i64 room) := (blk_cell d1 0).trans rfl; clear hw8 hb d1 d2 d3))
    refine start_ (n := 11) (S := fun w' => w'.cell? ⟨g, 0, none⟩ = some (.int .i64 room)) (ds := []) #[false, false, false, false, false, false, false, false, false, false, false] (by kernel_rfl) rfl rfl g0 (fun hHeld => ?_); refine with_tabW rappend.tab6 rappend.bits6 (fun HT_ HW_ => ?_)
    refine pure_ (i := 0) (N := some 28) (v := ?_) (a' := ?_) #[true, false, false, false, false, false, false, false, false, false, false] rfl rfl (any_of HT_.out (by kernel_rfl)) (fun _ _ _ h => h) (Or.inl ⟨by rfl, ?_⟩) ?_ ?_
    rotate_left
    · intro w'
      go_simp
      with_reducible rfl
    rotate_left
    · simp only [Act.put, List.setIfInBounds_toArray, List.set_cons_zero, List.set_cons_succ, i64_w, i32_w, xu32_w, xu8_w]
      rfl
    refine pure_ (i := 1) (N := some 29) (v := ?_) (a' := ?_) #[true, true, false, false, false, false, false, false, false, false, false] rfl rfl (any_of HT_.out (by kernel_rfl)) (fun _ _ _ h => h) (Or.inl ⟨by rfl, ?_⟩) ?_ ?_
    rotate_left
    · intro w'
      go_simp
      with_reducible rfl
    rotate_left
    · simp only [Act.put, List.setIfInBounds_toArray, List.set_cons_zero, List.set_cons_succ, i64_w, i32_w, xu32_w, xu8_w]
      rfl
    refine pure_ (i := 2) (N := some 30) (v := ?_) (a' := ?_) #[true, true, true, false, false, false, false, false, false, false, false] rfl rfl (any_of HT_.out (by kernel_rfl)) (fun _ _ _ h => h) (Or.inl ⟨by rfl, ?_⟩) ?_ ?_
    rotate_left
    · intro w'
      go_simp
      with_reducible rfl
    rotate_left
    · simp only [Act.put, List.setIfInBounds_toArray, List.set_cons_zero, List.set_cons_succ, i64_w, i32_w, xu32_w, xu8_w]
      rfl
    refine pure_ (i := 3) (N := some 31) (v := ?_) (a' := ?_) #[true, true, true, true, false, false, false, false, false, false, false] rfl rfl (any_of HT_.out (by kernel_rfl)) (fun _ _ _ h => h) (Or.inl ⟨by rfl, ?_⟩) ?_ ?_
    rotate_left
    · intro w'
      go_simp
      with_reducible rfl
    rotate_left
    · simp only [Act.put, List.setIfInBounds_toArray, List.set_cons_zero, List.set_cons_succ, i64_w, i32_w, xu32_w, xu8_w]
      rfl
    refine pure_ (i := 4) (N := some 32) (v := ?_) (a' := ?_) #[true, true, true, true, true, false, false, false, false, false, false] rfl rfl (any_of HT_.out (by kernel_rfl)) (fun _ _ _ h => h) (Or.inl ⟨by rfl, ?_⟩) ?_ ?_
    rotate_left
    · intro w'
      go_simp
      with_reducible rfl
    rotate_left
    · simp only [Act.put, List.setIfInBounds_toArray, List.set_cons_zero, List.set_cons_succ, i64_w, i32_w, xu32_w, xu8_w]
      rfl
    refine pure_ (i := 6) (N := some 34) (v := ?_) (a' := ?_) #[true, true, true, true, true, false, true, false, false, false, false] rfl rfl (any_of HT_.out (by kernel_rfl)) (fun _ _ _ h => h) (Or.inl ⟨by rfl, ?_⟩) ?_ ?_
    rotate_left
    · intro w'
      go_simp
      with_reducible rfl
    rotate_left
    · simp only [Act.put, List.setIfInBounds_toArray, List.set_cons_zero, List.set_cons_succ, i64_w, i32_w, xu32_w, xu8_w]
      rfl
    refine take_ (i := 5) (N := some 33) (v := ?_) (a' := ?_) #[true, true, true, true, true, true, true, false, false, false, false] rfl rfl (take_ofW HT_.out HW_.out (by kernel_rfl)) (fun _ _ _ h => h) (Or.inl ⟨by rfl, ?_⟩) hHeld ?_ ?_
    rotate_left
    · rintro w' s0
      go_simp
      with_reducible rfl
    rotate_left
    · simp only [Act.put, List.setIfInBounds_toArray, List.set_cons_zero, List.set_cons_succ, i64_w, i32_w, xu32_w, xu8_w]
      rfl
    refine one_ (i := 7) (N := some 35) #[true, true, true, true, true, true, true, true, false, false, false] rfl rfl (one_of HT_.out (by kernel_rfl)) (by decide) (fun K hK => ?_)
    refine goes_ Try.func41 (by kernel_rfl) rfl #[.pointer (some ⟨g, 0, none⟩)] (by rfl) rfl rfl (by (try simp only [List.map_toArray, List.map_cons, List.map_nil]); first | done | rfl) ?_
    with_reducible refine (rsize_calls (HD8.out.below (below_drew (Below.refl _ _))) HF.out (by have := HFT.out; omega)).mono ?_
    rintro e w5 ⟨rfl, hb5⟩
    refine ⟨_, rfl, ?_⟩
    have hb85 : Below w8.heap.size w8 w5 := ⟨hb5.os, hb5.tape, hb5.output, hb5.size, hb5.block⟩
    have HB5 := Aside0.mk hb85
    have HD5 := Aside0.mk (HD8.out.below hb85)
    refine hK.out _ _ (pw_cell_below hb85 g0) (fun hHeld => ?_)
    clear hK K hb5 hb85
    refine norm_ (a' := ?_) ?_ ?_
    rotate_left
    · show Act.put _ (some 35) _ = _
      simp only [Act.put, List.setIfInBounds_toArray, List.set_cons_zero, List.set_cons_succ, i64_w, i32_w, xu32_w, xu8_w]
      rfl
    refine pure_ (i := 8) (N := some 36) (v := ?_) (a' := ?_) #[true, true, true, true, true, true, true, true, true, false, false] rfl rfl (any_of HT_.out (by kernel_rfl)) (fun _ _ _ h => h) (Or.inl ⟨by rfl, ?_⟩) ?_ ?_
    rotate_left
    · intro w'
      go_simp
      with_reducible rfl
    rotate_left
    · simp only [Act.put, List.setIfInBounds_toArray, List.set_cons_zero, List.set_cons_succ, i64_w, i32_w, xu32_w, xu8_w]
      rfl
    refine pure_ (i := 9) (N := some 37) (v := ?_) (a' := ?_) #[true, true, true, true, true, true, true, true, true, true, false] rfl rfl (any_of HT_.out (by kernel_rfl)) (fun _ _ _ h => h) (Or.inl ⟨by rfl, ?_⟩) ?_ ?_
    rotate_left
    · intro w'
      go_simp
      with_reducible rfl
    rotate_left
    · simp only [Act.put, List.setIfInBounds_toArray, List.set_cons_zero, List.set_cons_succ, i64_w, i32_w, xu32_w, xu8_w]
      rfl
    refine pure_ (i := 10) (N := some 27) (v := ?_) (a' := ?_) #[true, true, true, true, true, true, true, true, true, true, true] rfl rfl (any_of HT_.out (by kernel_rfl)) (fun _ _ _ h => h) (Or.inl ⟨by rfl, ?_⟩) ?_ ?_
    rotate_left
    · intro w'
      go_simp
      with_reducible rfl
    rotate_left
    · simp only [Act.put, List.setIfInBounds_toArray, List.set_cons_zero, List.set_cons_succ, i64_w, i32_w, xu32_w, xu8_w]
      rfl
    refine done_ (done_of HT_.out (by kernel_rfl)) ?_
    clear hHeld HT_ HW_
    go_wp2_with (fail)
    go_ret
    exact ⟨rfl, HD5.out, Chg.of_below _ ((HB9.out.trans (HB8.out.mono HB9.out.size)).trans (HB5.out.mono (HB9.out.trans (HB8.out.mono HB9.out.size)).size))⟩
  case neg =>
  have e1 : appendE room st s x = 0 := by unfold appendE; exact (if_pos ht).trans ((if_neg hne).trans (if_neg hfull))
  have hfn : f.n = s := (look_mem HL.out).2
  have e2 : appendS room st s x = put st ⟨f.n, f.b ++ x, f.l⟩ := by
    unfold appendS
    refine (if_pos ht).trans ((if_neg hne).trans ((if_neg hfull).trans ?_))
    unfold appS oldB oldL
    rw [HL.out, hfn]
  have hbl : f.b.length ≤ 16777216 := by have h1 := look_len HL.out; have h2 := HFT.out; omega
  have HBL := Aside0.mk hbl
  obtain ⟨m, hm⟩ : ∃ m : Nat, m = st.length := ⟨_, rfl⟩
  have HN := Aside0.mk hm
  have hmf : m ≤ 100000 := by omega
  obtain ⟨bb, hbb⟩ : ∃ bb : List Int, bb = f.b ++ x := ⟨_, rfl⟩
  rw [← hbb] at e2
  have HBV := Aside0.mk hbb
  clear hfn hbl hm hfew hbb
  rw [e1, e2]
  clear e1 e2 hne
  go_enter Try.func35, Try.ntmps35
  go_wp2_with (first
    | (go_at_call 42; (with_reducible refine (at_some HD.out HF.out s HL.out).mono ?_); rintro e w9 ⟨i, hi, rfl, hb⟩; have HB9 := Aside0.mk hb; have HD9 := Aside0.mk (HD.out.below hb); have HI := Aside0.mk hi; have hi0 : ¬ (i : Int) < 0 := (by omega); have hi2 : (i : Int) ≥ 0 := (by omega); clear hb hi)
    | (go_at_call 45; (with_reducible refine (rtitle_calls s hsz _).mono ?_); rintro e w8 ⟨rfl, hw8⟩; rw [ht]; have hb := drawn_below hw8; have HB8 := Aside0.mk hb; have HD8 := Aside0.mk (HD9.out.below hb); obtain ⟨A0, c0, d1, d2, d3⟩ := HD8.out.slice; have g0 : w8.cell? ⟨g, 0, none⟩ = some (.int .i64 room) := (blk_cell d1 0).trans rfl; clear hw8 hb d1 d2 d3))
  refine start_ (n := 11) (S := fun w' => w'.cell? ⟨g, 0, none⟩ = some (.int .i64 room)) (ds := []) #[false, false, false, false, false, false, false, false, false, false, false] (by kernel_rfl) rfl rfl g0 (fun hHeld => ?_); refine with_tabW rappend.tab6 rappend.bits6 (fun HT_ HW_ => ?_)
  refine pure_ (i := 0) (N := some 28) (v := ?_) (a' := ?_) #[true, false, false, false, false, false, false, false, false, false, false] rfl rfl (any_of HT_.out (by kernel_rfl)) (fun _ _ _ h => h) (Or.inl ⟨by rfl, ?_⟩) ?_ ?_
  rotate_left
  · intro w'
    go_simp
    with_reducible rfl
  rotate_left
  · simp only [Act.put, List.setIfInBounds_toArray, List.set_cons_zero, List.set_cons_succ, i64_w, i32_w, xu32_w, xu8_w]
    rfl
  refine pure_ (i := 1) (N := some 29) (v := ?_) (a' := ?_) #[true, true, false, false, false, false, false, false, false, false, false] rfl rfl (any_of HT_.out (by kernel_rfl)) (fun _ _ _ h => h) (Or.inl ⟨by rfl, ?_⟩) ?_ ?_
  rotate_left
  · intro w'
    go_simp
    with_reducible rfl
  rotate_left
  · simp only [Act.put, List.setIfInBounds_toArray, List.set_cons_zero, List.set_cons_succ, i64_w, i32_w, xu32_w, xu8_w]
    rfl
  refine pure_ (i := 2) (N := some 30) (v := ?_) (a' := ?_) #[true, true, true, false, false, false, false, false, false, false, false] rfl rfl (any_of HT_.out (by kernel_rfl)) (fun _ _ _ h => h) (Or.inl ⟨by rfl, ?_⟩) ?_ ?_
  rotate_left
  · intro w'
    go_simp
    with_reducible rfl
  rotate_left
  · simp only [Act.put, List.setIfInBounds_toArray, List.set_cons_zero, List.set_cons_succ, i64_w, i32_w, xu32_w, xu8_w]
    rfl
  refine pure_ (i := 3) (N := some 31) (v := ?_) (a' := ?_) #[true, true, true, true, false, false, false, false, false, false, false] rfl rfl (any_of HT_.out (by kernel_rfl)) (fun _ _ _ h => h) (Or.inl ⟨by rfl, ?_⟩) ?_ ?_
  rotate_left
  · intro w'
    go_simp
    with_reducible rfl
  rotate_left
  · simp only [Act.put, List.setIfInBounds_toArray, List.set_cons_zero, List.set_cons_succ, i64_w, i32_w, xu32_w, xu8_w]
    rfl
  refine pure_ (i := 4) (N := some 32) (v := ?_) (a' := ?_) #[true, true, true, true, true, false, false, false, false, false, false] rfl rfl (any_of HT_.out (by kernel_rfl)) (fun _ _ _ h => h) (Or.inl ⟨by rfl, ?_⟩) ?_ ?_
  rotate_left
  · intro w'
    go_simp
    with_reducible rfl
  rotate_left
  · simp only [Act.put, List.setIfInBounds_toArray, List.set_cons_zero, List.set_cons_succ, i64_w, i32_w, xu32_w, xu8_w]
    rfl
  refine pure_ (i := 6) (N := some 34) (v := ?_) (a' := ?_) #[true, true, true, true, true, false, true, false, false, false, false] rfl rfl (any_of HT_.out (by kernel_rfl)) (fun _ _ _ h => h) (Or.inl ⟨by rfl, ?_⟩) ?_ ?_
  rotate_left
  · intro w'
    go_simp
    with_reducible rfl
  rotate_left
  · simp only [Act.put, List.setIfInBounds_toArray, List.set_cons_zero, List.set_cons_succ, i64_w, i32_w, xu32_w, xu8_w]
    rfl
  refine take_ (i := 5) (N := some 33) (v := ?_) (a' := ?_) #[true, true, true, true, true, true, true, false, false, false, false] rfl rfl (take_ofW HT_.out HW_.out (by kernel_rfl)) (fun _ _ _ h => h) (Or.inl ⟨by rfl, ?_⟩) hHeld ?_ ?_
  rotate_left
  · rintro w' s0
    go_simp
    with_reducible rfl
  rotate_left
  · simp only [Act.put, List.setIfInBounds_toArray, List.set_cons_zero, List.set_cons_succ, i64_w, i32_w, xu32_w, xu8_w]
    rfl
  refine one_ (i := 7) (N := some 35) #[true, true, true, true, true, true, true, true, false, false, false] rfl rfl (one_of HT_.out (by kernel_rfl)) (by decide) (fun K hK => ?_)
  refine goes_ Try.func41 (by kernel_rfl) rfl #[.pointer (some ⟨g, 0, none⟩)] (by rfl) rfl rfl (by (try simp only [List.map_toArray, List.map_cons, List.map_nil]); first | done | rfl) ?_
  with_reducible refine (rsize_calls (HD8.out.below (below_drew (Below.refl _ _))) HF.out (by have := HFT.out; omega)).mono ?_
  rintro e w5 ⟨rfl, hb5⟩
  refine ⟨_, rfl, ?_⟩
  have hb85 : Below w8.heap.size w8 w5 := ⟨hb5.os, hb5.tape, hb5.output, hb5.size, hb5.block⟩
  have HB5 := Aside0.mk hb85
  have HD5 := Aside0.mk (HD8.out.below hb85)
  refine hK.out _ _ (pw_cell_below hb85 g0) (fun hHeld => ?_)
  clear hK K hb5 hb85
  refine norm_ (a' := ?_) ?_ ?_
  rotate_left
  · show Act.put _ (some 35) _ = _
    simp only [Act.put, List.setIfInBounds_toArray, List.set_cons_zero, List.set_cons_succ, i64_w, i32_w, xu32_w, xu8_w]
    rfl
  refine pure_ (i := 8) (N := some 36) (v := ?_) (a' := ?_) #[true, true, true, true, true, true, true, true, true, false, false] rfl rfl (any_of HT_.out (by kernel_rfl)) (fun _ _ _ h => h) (Or.inl ⟨by rfl, ?_⟩) ?_ ?_
  rotate_left
  · intro w'
    go_simp
    with_reducible rfl
  rotate_left
  · simp only [Act.put, List.setIfInBounds_toArray, List.set_cons_zero, List.set_cons_succ, i64_w, i32_w, xu32_w, xu8_w]
    rfl
  refine pure_ (i := 9) (N := some 37) (v := ?_) (a' := ?_) #[true, true, true, true, true, true, true, true, true, true, false] rfl rfl (any_of HT_.out (by kernel_rfl)) (fun _ _ _ h => h) (Or.inl ⟨by rfl, ?_⟩) ?_ ?_
  rotate_left
  · intro w'
    go_simp
    with_reducible rfl
  rotate_left
  · simp only [Act.put, List.setIfInBounds_toArray, List.set_cons_zero, List.set_cons_succ, i64_w, i32_w, xu32_w, xu8_w]
    rfl
  refine pure_ (i := 10) (N := some 27) (v := ?_) (a' := ?_) #[true, true, true, true, true, true, true, true, true, true, true] rfl rfl (any_of HT_.out (by kernel_rfl)) (fun _ _ _ h => h) (Or.inl ⟨by rfl, ?_⟩) ?_ ?_
  rotate_left
  · intro w'
    go_simp
    with_reducible rfl
  rotate_left
  · simp only [Act.put, List.setIfInBounds_toArray, List.set_cons_zero, List.set_cons_succ, i64_w, i32_w, xu32_w, xu8_w]
    rfl
  refine done_ (done_of HT_.out (by kernel_rfl)) ?_
  clear hHeld HT_ HW_
  have HW5 := Aside0.mk ((HB9.out.trans (HB8.out.mono HB9.out.size)).trans (HB5.out.mono (HB9.out.trans (HB8.out.mono HB9.out.size)).size))
  have HX5 := Aside0.mk (Kd.C_below HX.out.2 HW5.out)
  obtain ⟨ad, c9, A1, c1, g1, hil, hcc, x0, x1, x2, hc1, hC1, hM⟩ := HD5.out.at_ HI.out
  rw [← HN.out] at g1 hil hcc
  have hi1 : (i : Int) < (m : Int) := by omega
  have hi3 : (0 : Int) ≤ (i : Int) := by omega
  have HC1 := Aside0.mk (And.intro hc1 hC1)
  clear hc1 hC1 hM
  have ga := fun o => Go.Lib.cell?_alloc_some (W := w5) o g1
  have xa := fun o => Go.Lib.cell?_alloc_some (W := w5) o x0
  have xb := fun o => Go.Lib.cell?_alloc_some (W := w5) o x1
  have xc := fun o => Go.Lib.cell?_alloc_some (W := w5) o x2
  go_wp2_with (first
    | (go_at_call 32; (with_reducible refine (join2_at w5 (.cells #[.string f.n, .slice A1 f.b.length c1, .int .i64 f.l] 71) A1 f.b c1 HC1.out.1 HC1.out.2 A x c HX.out.1 HX5.out (by have h1 := HBL.out; have h2 := HFT.out; omega)).mono ?_); rintro e w6 ⟨v6, rfl, hR, hb⟩; rw [← HBV.out] at hR; obtain ⟨A6, c6, hv⟩ := Kd.R_slice hR; subst hv; have HA := Aside0.mk (app_ready HD5.out (Nat.le_trans HBB.out HW5.out.size) hb hR); obtain ⟨y0, y1, y2, y3⟩ := HA.out.1; clear hR hb)
    | (go_at_call 46; (with_reducible refine (rput_calls HA.out.2.1 HA.out.2.2.1 HSR.out HF.out ⟨f.n, bb, f.l⟩ A6 c6 HA.out.2.2.2.1).mono ?_); rintro e w7 ⟨rfl, hR, hC⟩; have HR7 := Aside0.mk hR; have HC7 := Aside0.mk hC; clear hR hC))
  go_ret
  exact ⟨rfl, HR7.out, (Chg.of_below (fun k => k = g) (HW5.out.trans (HA.out.2.2.2.2.mono HW5.out.size))).trans HC7.out (fun _ _ e => e) (fun _ _ e => e)⟩
end
end Go.Proofs.Ytkdbojaoaldmbaa.G

/- The document's disk by hand: Crash. -/
namespace Go.Proofs.Ytkdbojaoaldmbaa.G
open Go.RowKit Go.Proofs.Ytkdbojaoaldmbaa.Q Go.Proofs.YtkdbojaoaldmbaaW.PrintWords Go.Proofs.YtkdbojaoaldmbaaW.PrintLast Go.Proofs.YtkdbojaoaldmbaaW.PrintMore
set_option linter.unusedVariables false
set_option linter.unusedSimpArgs false
attribute [local go_sem] min2_mn min_two max2_mx max_two
def rcrash.T6 : Bool × List (List Nat × List Nat) := (true, [([], []), ([], []), ([1], [1]), ([], []), ([3], [3]), ([], []), ([4, 5], [4, 5]), ([6], [6]), ([7], [7]), ([], []), ([2, 8, 9], [2, 8, 9]), ([10], [10]), ([0, 11, 8], [0, 11]), ([12, 12, 0, 1, 2, 3, 4, 5, 6, 7, 8, 9, 10, 11, 12], [0, 12])])
def rcrash.B6 : List Nat := [0, 0, 2, 0, 8, 0, 56, 120, 248, 0, 1022, 2046, 4095, 8191]
theorem rcrash.tab6 : rtab .any (opsOf Try.f40 6) = rcrash.T6 := by kernel_rfl
theorem rcrash.bits6 : waitsOk rcrash.T6.2 rcrash.B6 = true := by kernel_rfl
theorem crash_take {keep : Int} {st : St} {i : Nat} (hi : i < st.length) : crashS keep (st.take (i + 1)) = crashS keep (st.take i) ++ (if kpN keep st[i] = 0 then [] else [crashF keep st[i]]) := by
  rw [List.take_add_one, List.getElem?_eq_getElem hi]
  unfold crashS
  rw [List.filterMap_append]
  congr 1
  by_cases h : kpN keep st[i] = 0
  · simp [h]
  · simp [h]
set_option maxHeartbeats 2000000 in
set_option maxRecDepth 100000 in
theorem rcrash_calls {w : World} {g B : Nat} {room : Int} {st : St} (h : RefG w g B room st) (hB : B ≤ w.heap.size) (hfew : st.length ≤ 100000) (htot : total st ≤ 16777216) (hlast : ∀ f ∈ st, 0 ≤ f.l ∧ f.l ≤ f.b.length) (hs : Sorted st) (keep : Int) : Calls Try.prog 40 #[.pointer (some ⟨g, 0, none⟩), .int .i64 keep] w fun e w' => e = .returned (.tuple #[]) ∧ RefG w' g B room (crashS keep st) ∧ Chg (fun k => k = g) w w' := by
  have HTT := Aside0.mk (And.intro htot (And.intro hlast hs))
  clear htot hlast hs
  obtain ⟨v0, h1, h2⟩ := h.ex
  obtain ⟨A, c, hv⟩ := Kd.R_slice h2
  subst hv
  rw [List.length_map] at h1 h2
  have hrd := (Kd.R_reads' h2).2
  have g1 : w.cell? ⟨g, 1, none⟩ = some (.slice A st.length c) := (blk_cell h1 1).trans rfl
  obtain ⟨n, hn⟩ : ∃ n : Nat, n = st.length := ⟨_, rfl⟩
  rw [← hn] at g1 h1 h2 hfew
  have h3 := hrd.1
  rw [← hn] at h3
  have HN := Aside0.mk hn
  have HFW := Aside0.mk hfew
  have HO := Aside0.mk (Kd.R_mono (ok' := fun k => B ≤ k ∧ k < w.heap.size) (Kd.R_bound h2) (fun k hk => ⟨hk.1, hk.2.2.1⟩))
  have HG := Aside0.mk h1
  have HBS := Aside0.mk (And.intro hB (And.intro h.base (heap_lt h1)))
  clear h1 h2 h hn hrd hB
  go_enter Try.func40, Try.ntmps40
  go_wp2_with ((with_reducible refine gate_dst (N := 8) rfl ?_); refine Kd.R_lit k71 B 71 ?hg (N := 8) ?hd (xs := ([] : List S71)) (inner := []) (ok := fun k => B ≤ k) (okp := fun _ => False) ?hr ?hp (fun _ hk => hk.elim) HBS.out.1 (Below.refl _ _) HBS.out.1 (by simp) ?_; (case hd => rfl); (case hg => rfl); (case hr => first | (go_simp; done) | (go_simp; rfl)); (case hp => exact (Reps.none _ _)); intro v1 w1 ho1 hb1 hg1 hn1; have hbw : Below w.heap.size w w1 := ⟨hg1.os, hg1.tape, hg1.output, hg1.size, fun k hk => hg1.block k hk (by simp)⟩; replace g1 := pw_cell_below hbw g1; have HR1 := Aside0.mk ho1; have HB1 := Aside0.mk hbw; have HV1 := Aside0.mk (show ∀ k, v1.ownBlock = some k → w.heap.size ≤ k from fun k hk => by obtain ⟨b, e1, e2⟩ := hn1; rw [e1] at hk; cases hk; exact e2); clear ho1 hb1 hg1 hn1 hbw)
  go_loopg [4, 14] (n + 1) (fun kq v4 v14 wr => ∃ (i : Nat), v14 = .int .i64 i ∧ Aside0 (kq + i = n + 1 ∧ i ≤ n) ∧ Aside0 (Below w.heap.size w wr) ∧ Aside0 (k71.R 71 wr B (fun k => B ≤ k) v4 ((crashS keep (st.take i)).map toS)) ∧ Aside0 (∀ k, v4.ownBlock = some k → w.heap.size ≤ k))
  case atStart => exact ⟨0, rfl, ⟨by omega⟩, HB1, HR1, HV1⟩
  case round =>
    obtain ⟨i, rfl, HK, HB, HR, HV⟩ := hrel
    clear HR1 HB1 HV1
    cases gk with
    | zero => have := HK.out; omega
    | succ k1 =>
    by_cases hlt : i < n
    · have hi1 : (i : Int) < (n : Int) := by omega
      have hil : i < st.length := by have := HN.out; omega
      have hOr := Kd.R_below HO.out HB.out
      obtain ⟨ad, hA⟩ : ∃ ad, A = some ad := by
        obtain ⟨ad, _, e, _⟩ := Kd.C_get (Kd.R_reads' hOr).2.2 z71 (i : Int) (by omega) (by rw [List.length_map]; omega)
        exact ⟨ad, e⟩
      subst hA
      obtain ⟨A1, c1, x0, x1, x2, hM⟩ := lent hOr hil
      have hct := crash_take (keep := keep) hil
      have hmem := List.getElem_mem hil
      have hdl : (crashS keep (st.take i)).length ≤ 100000 := by
        have h1 := crashS_len keep (st.take i)
        rw [List.length_take] at h1
        omega
      generalize st[i] = f at *
      have hbl : f.b.length ≤ 16777216 := Nat.le_trans (look_len (look_of_mem HTT.out.2.2 hmem)) HTT.out.1
      obtain ⟨fl0, fl1⟩ := HTT.out.2.1 f hmem
      obtain ⟨hwl, hke, hwk, q0, q1, hk2⟩ := lasts_nums (keep := keep) fl0 fl1 hbl
      have hc1 : f.b.length ≤ c1 ∧ (Kd.int .u8).C wr A1 f.b.length f.b := by
        obtain ⟨v1, hv1, hR1⟩ := k71_openM hM
        have hv1' : v1 = .slice A1 f.b.length c1 := by injection hv1 with _ e; injection e with e _; exact e.symm
        subst hv1'
        exact (Kd.R_reads' hR1).2
      have HB1 := Aside0.mk (below_alloc HB.out (.cells #[.string f.n, .slice A1 f.b.length c1, .int .i64 f.l] 71))
      have HR1 := Aside0.mk (Kd.R_alloc HR.out (.cells #[.string f.n, .slice A1 f.b.length c1, .int .i64 f.l] 71))
      have HC1 := Aside0.mk (And.intro hc1.1 (Kd.C_alloc hc1.2 (.cells #[.string f.n, .slice A1 f.b.length c1, .int .i64 f.l] 71)))
      have HDT := Aside0.mk (And.intro hct (And.intro hdl (And.intro hbl hk2)))
      clear hM hOr hct hdl hmem hbl fl0 fl1 q0 q1 hc1
      generalize hN : kpN keep f = N at *
      have HKN := Aside0.mk hN
      clear hN hk2
      by_cases hz : (N : Int) > 0
      · have hN1 : (N : Int) ≤ (f.b.length : Int) := by have := HDT.out.2.2.2; omega
        have htl : (f.b.take N).length = N := by rw [List.length_take]; omega
        obtain ⟨wx, hwx⟩ : ∃ wx : World, wx = wr.alloc (.cells #[.string f.n, .slice A1 f.b.length c1, .int .i64 f.l] 71) := ⟨_, rfl⟩
        obtain ⟨i5, hi5, _⟩ := Option.map_eq_some_iff.1 info5
        have hsl := cut_to (P := Try.prog) 29 5 .i64 Try.underlying29 hi5 A1 f.b.length c1 (N : Int) (by omega) (by omega) HC1.out.1
        rw [Int.toNat_natCast] at hsl
        clear hi5
        go_wp2_with (fail)
        have hnx := heap_alloc_new wr (.cells #[.string f.n, .slice A1 f.b.length c1, .int .i64 f.l] 71)
        have hszx : wx.heap.size = wr.heap.size + 1 := by rw [hwx]; simp
        have HCx := HC1.out
        have HRx := HR1.out
        have HBx := HB1.out
        rw [← hwx] at hnx HCx HRx HBx ⊢
        have y0 : wx.cell? ⟨wr.heap.size, 0, none⟩ = some (.string f.n) := (blk_cell hnx 0).trans rfl
        have y1 : wx.cell? ⟨wr.heap.size, 1, none⟩ = some (.slice A1 f.b.length c1) := (blk_cell hnx 1).trans rfl
        have HU := Aside0.mk (show ∀ k, u4.ownBlock = some k → k < wr.heap.size from fun k hk => Kd.R_lt HR.out k hk)
        have HXX := Aside0.mk (And.intro HCx (And.intro HRx (And.intro HBx (And.intro hszx hnx))))
        have HJ := Aside0.mk (show Calls Try.prog 32 #[.slice (some ⟨wx.drew.heap.size, 0, none⟩) 1 1] (wx.drew.alloc (.cells #[.slice A1 N c1] 29)) _ from htl ▸ join_calls wx.drew A1 (f.b.take N) c1 (by have := HCx.1; omega) (Kd.C_drew (Kd.C_take HCx.2 (by omega))) (by have := HDT.out.2.2.1; omega))
        clear hwx HCx HRx HBx hszx hnx x0 x1 x2
        refine start_ (n := 14) (S := fun w' => w'.cell? ⟨wr.heap.size, 0, none⟩ = some (.string f.n) ∧ w'.cell? ⟨wr.heap.size, 1, none⟩ = some (.slice A1 f.b.length c1)) (ds := []) #[false, false, false, false, false, false, false, false, false, false, false, false, false, false] (by kernel_rfl) rfl rfl ⟨y0, y1⟩ (fun hHeld => ?_); refine with_tabW rcrash.tab6 rcrash.bits6 (fun HT_ HW_ => ?_)
        refine pure_ (i := 0) (N := some 32) (v := ?_) (a' := ?_) #[true, false, false, false, false, false, false, false, false, false, false, false, false, false] rfl rfl (any_of HT_.out (by kernel_rfl)) (fun _ _ _ h => h) (Or.inl ⟨by rfl, ?_⟩) ?_ ?_
        rotate_left
        · intro w'
          go_simp
          with_reducible rfl
        rotate_left
        · simp only [Act.put, List.setIfInBounds_toArray, List.set_cons_zero, List.set_cons_succ, i64_w, i32_w, xu32_w, xu8_w]
          rfl
        refine pure_ (i := 1) (N := some 33) (v := ?_) (a' := ?_) #[true, true, false, false, false, false, false, false, false, false, false, false, false, false] rfl rfl (any_of HT_.out (by kernel_rfl)) (fun _ _ _ h => h) (Or.inl ⟨by rfl, ?_⟩) ?_ ?_
        rotate_left
        · intro w'
          go_simp
          with_reducible rfl
        rotate_left
        · simp only [Act.put, List.setIfInBounds_toArray, List.set_cons_zero, List.set_cons_succ, i64_w, i32_w, xu32_w, xu8_w]
          rfl
        refine pure_ (i := 3) (N := some 35) (v := ?_) (a' := ?_) #[true, true, false, true, false, false, false, false, false, false, false, false, false, false] rfl rfl (any_of HT_.out (by kernel_rfl)) (fun _ _ _ h => h) (Or.inl ⟨by rfl, ?_⟩) ?_ ?_
        rotate_left
        · intro w'
          go_simp
          with_reducible rfl
        rotate_left
        · simp only [Act.put, List.setIfInBounds_toArray, List.set_cons_zero, List.set_cons_succ, i64_w, i32_w, xu32_w, xu8_w]
          rfl
        refine pure_ (i := 5) (N := some 37) (v := ?_) (a' := ?_) #[true, true, false, true, false, true, false, false, false, false, false, false, false, false] rfl rfl (any_of HT_.out (by kernel_rfl)) (fun _ _ _ h => h) (Or.inl ⟨by rfl, ?_⟩) ?_ ?_
        rotate_left
        · intro w'
          go_simp
          with_reducible rfl
        rotate_left
        · simp only [Act.put, List.setIfInBounds_toArray, List.set_cons_zero, List.set_cons_succ, i64_w, i32_w, xu32_w, xu8_w]
          rfl
        refine pure_ (i := 9) (N := some 41) (v := ?_) (a' := ?_) #[true, true, false, true, false, true, false, false, false, true, false, false, false, false] rfl rfl (any_of HT_.out (by kernel_rfl)) (fun _ _ _ h => h) (Or.inl ⟨by rfl, ?_⟩) ?_ ?_
        rotate_left
        · intro w'
          go_simp
          with_reducible rfl
        rotate_left
        · simp only [Act.put, List.setIfInBounds_toArray, List.set_cons_zero, List.set_cons_succ, i64_w, i32_w, xu32_w, xu8_w]
          rfl
        refine take_ (i := 2) (N := some 34) (v := ?_) (a' := ?_) #[true, true, true, true, false, true, false, false, false, true, false, false, false, false] rfl rfl (take_ofW HT_.out HW_.out (by kernel_rfl)) (fun _ _ _ h => h) (Or.inl ⟨by rfl, ?_⟩) hHeld ?_ ?_
        rotate_left
        · rintro w' ⟨s0, s1⟩
          go_simp
          with_reducible rfl
        rotate_left
        · simp only [Act.put, List.setIfInBounds_toArray, List.set_cons_zero, List.set_cons_succ, i64_w, i32_w, xu32_w, xu8_w]
          rfl
        refine take_ (i := 4) (N := some 36) (v := ?_) (a' := ?_) #[true, true, true, true, true, true, false, false, false, true, false, false, false, false] rfl rfl (take_ofW HT_.out HW_.out (by kernel_rfl)) (fun _ _ _ h => h) (Or.inl ⟨by rfl, ?_⟩) hHeld ?_ ?_
        rotate_left
        · rintro w' ⟨s0, s1⟩
          go_simp
          with_reducible rfl
        rotate_left
        · simp only [Act.put, List.setIfInBounds_toArray, List.set_cons_zero, List.set_cons_succ, i64_w, i32_w, xu32_w, xu8_w]
          rfl
        refine pure_ (i := 6) (N := some 38) (v := ?_) (a' := ?_) #[true, true, true, true, true, true, true, false, false, true, false, false, false, false] rfl rfl (any_of HT_.out (by kernel_rfl)) (fun _ _ _ h => h) (Or.inl ⟨by rfl, ?_⟩) ?_ ?_
        rotate_left
        · intro w'
          go_simp
          with_reducible rfl
        rotate_left
        · simp only [Act.put, List.setIfInBounds_toArray, List.set_cons_zero, List.set_cons_succ, i64_w, i32_w, xu32_w, xu8_w]
          rfl
        refine one_ (i := 7) (N := some 39) #[true, true, true, true, true, true, true, true, false, true, false, false, false, false] rfl rfl (one_of HT_.out (by kernel_rfl)) (by decide) (fun K hK => ?_)
        refine value_ (v := .slice (some ⟨wx.drew.heap.size, 0, none⟩) 1 1) (w1 := wx.drew.alloc (.cells #[.slice A1 N c1] 29)) (by rfl) rfl (by first | (go_simp; done) | (go_simp; rfl)) ?_
        refine hK.out _ _ (ps2 ⟨y0, y1⟩ (below_alloc (below_drew (Below.refl _ _)) _)) (fun hHeld => ?_)
        clear hK K
        refine norm_ (a' := ?_) ?_ ?_
        rotate_left
        · show Act.put _ (some 39) _ = _
          simp only [Act.put, List.setIfInBounds_toArray, List.set_cons_zero, List.set_cons_succ, i64_w, i32_w, xu32_w, xu8_w]
          rfl
        refine one_ (i := 8) (N := some 40) #[true, true, true, true, true, true, true, true, true, true, false, false, false, false] rfl rfl (one_of HT_.out (by kernel_rfl)) (by decide) (fun K hK => ?_)
        refine goes_ Try.func32 (by kernel_rfl) rfl #[.slice (some ⟨wx.drew.heap.size, 0, none⟩) 1 1] (by rfl) rfl rfl (by (try simp only [List.map_toArray, List.map_cons, List.map_nil]); first | done | rfl) ?_
        with_reducible refine HJ.out.mono ?_
        rintro e w5 ⟨v5, rfl, hR5, hb5⟩
        refine ⟨_, rfl, ?_⟩
        obtain ⟨A5, c5, hv5⟩ := Kd.R_slice hR5
        rw [htl] at hv5
        subst hv5
        have hx5 : Below wx.heap.size wx w5 := below_step (below_alloc (below_drew (Below.refl wx.heap.size wx)) _) hb5
        have hzx := (below_alloc (below_drew (Below.refl wx.heap.size wx)) (.cells #[.slice A1 N c1] 29)).size
        have HM5 := Aside0.mk (k71_mkM w5 B (fun k => wx.heap.size ≤ k) ⟨f.n, f.b.take N, (N : Nat)⟩ (Kd.R_lower (base' := B) (Kd.R_mono (Kd.R_bound hR5) (fun k hk => Nat.le_trans hzx hk.2.1)) (by have h1 := HBS.out.1; have h2 := HXX.out.2.2.1.size; omega)))
        have HX5 := Aside0.mk hx5
        refine hK.out _ _ (ps2 ⟨y0, y1⟩ hx5) (fun hHeld => ?_)
        clear hK K hR5 hb5 hx5 hzx
        refine norm_ (a' := ?_) ?_ ?_
        rotate_left
        · show Act.put _ (some 40) _ = _
          simp only [Act.put, List.setIfInBounds_toArray, List.set_cons_zero, List.set_cons_succ, i64_w, i32_w, xu32_w, xu8_w]
          rfl
        refine pure_ (i := 10) (N := some 42) (v := ?_) (a' := ?_) #[true, true, true, true, true, true, true, true, true, true, true, false, false, false] rfl rfl (any_of HT_.out (by kernel_rfl)) (fun _ _ _ h => h) (Or.inl ⟨by rfl, ?_⟩) ?_ ?_
        rotate_left
        · intro w'
          go_simp
          with_reducible rfl
        rotate_left
        · simp only [Act.put, List.setIfInBounds_toArray, List.set_cons_zero, List.set_cons_succ, i64_w, i32_w, xu32_w, xu8_w]
          rfl
        refine one_ (i := 11) (N := some 43) #[true, true, true, true, true, true, true, true, true, true, true, true, false, false] rfl rfl (one_of HT_.out (by kernel_rfl)) (by decide) (fun K hK => ?_)
        refine value_ (v := .slice (some ⟨w5.heap.size, 0, none⟩) 1 1) (w1 := w5.alloc (.cells #[.string f.n, .slice A5 N c5, .int .i64 (N : Nat)] 71)) (by rfl) rfl (by first | (go_simp; done) | (go_simp; rfl)) ?_
        refine hK.out _ _ (ps2 ⟨y0, y1⟩ (below_alloc HX5.out _)) (fun hHeld => ?_)
        clear hK K
        refine norm_ (a' := ?_) ?_ ?_
        rotate_left
        · show Act.put _ (some 43) _ = _
          simp only [Act.put, List.setIfInBounds_toArray, List.set_cons_zero, List.set_cons_succ, i64_w, i32_w, xu32_w, xu8_w]
          rfl
        refine one_ (i := 12) (N := some 44) #[true, true, true, true, true, true, true, true, true, true, true, true, true, false] rfl rfl (one_of HT_.out (by kernel_rfl)) (by decide) (fun K hK => ?_)
        refine Kd.R_append_step k71 (w0 := w) B (by rfl) (.tmp 32) (.tmp 43) 47 71 (.agg #[.string ⟨#[]⟩, .slice none 0 0, .int .i64 0]) 48 rfl Try.underlying47 info71 rfl (by decide) (by omega) u4 ((crashS keep (st.take i)).map toS) (⟨f.n, f.b.take N, (N : Nat)⟩ : S71) [.string f.n, .slice A5 N c5, .int .i64 (N : Nat)] (fun k => B ≤ k) (fun k => wx.heap.size ≤ k) rfl rfl ?aP ?aK ?aF ?aO ?aB ?aS ?aL ?_
        (case aP => exact HM5.out)
        (case aK => exact fun k hk => ⟨by have h1 := HBS.out.1; have h2 := HXX.out.2.2.1.size; omega, fun e => by have h1 := HU.out k e.symm; have h2 := HXX.out.2.2.2.1; omega⟩)
        (case aF => exact fun k hk => by have h1 := HBS.out.1; have h2 := HXX.out.2.2.1.size; have h3 := HX5.out.size; omega)
        (case aO => exact Kd.R_below HXX.out.2.1 HX5.out)
        (case aB => exact (HXX.out.2.2.1.trans (HX5.out.mono HXX.out.2.2.1.size)).mono HBS.out.1)
        (case aS => have h1 := HBS.out.1; have h2 := HXX.out.2.2.1.size; have h3 := HX5.out.size; omega)
        (case aL => rw [List.length_map]; have := HDT.out.2.1; omega)
        intro v6 w6 ho hb hg hat
        have hBw5 : Below w.heap.size w w5 := HXX.out.2.2.1.trans (HX5.out.mono HXX.out.2.2.1.size)
        have hF0 : w6.heap[wr.heap.size]? = wx.heap[wr.heap.size]? := (hg.block _ (by have h1 := HX5.out.size; have h2 := HXX.out.2.2.2.1; omega) (fun e => by have := HU.out _ e.symm; omega)).trans (HX5.out.block _ (by have h2 := HXX.out.2.2.2.1; omega))
        have HAA := Aside0.mk (And.intro ho (And.intro (⟨hg.os.trans hBw5.os, hg.tape.trans hBw5.tape, hg.output.trans hBw5.output, Nat.le_trans hBw5.size hg.size, fun k hk => (hg.block k (Nat.lt_of_lt_of_le hk hBw5.size) (fun e => by have := HV.out k e.symm; omega)).trans (hBw5.block k hk)⟩ : Below w.heap.size w w6) (And.intro (show ∀ k, v6.ownBlock = some k → w.heap.size ≤ k from fun k hk => by (rcases hat with e | ⟨b, e1, e2⟩); (rw [e] at hk; exact HV.out k hk); (rw [e1] at hk; cases hk; exact Nat.le_trans hBw5.size e2)) trivial)))
        refine hK.out _ _ ⟨(World.cell?_of_block hF0).trans y0, (World.cell?_of_block hF0).trans y1⟩ (fun hHeld => ?_)
        clear hK K ho hb hg hat hBw5 hF0
        refine norm_ (a' := ?_) ?_ ?_
        rotate_left
        · show Act.put _ (some 44) _ = _
          simp only [Act.put, List.setIfInBounds_toArray, List.set_cons_zero, List.set_cons_succ, i64_w, i32_w, xu32_w, xu8_w]
          rfl
        refine pure_ (i := 13) (N := some 4) (v := ?_) (a' := ?_) #[true, true, true, true, true, true, true, true, true, true, true, true, true, true] rfl rfl (any_of HT_.out (by kernel_rfl)) (fun _ _ _ h => h) (Or.inl ⟨by rfl, ?_⟩) ?_ ?_
        rotate_left
        · intro w'
          go_simp
          with_reducible rfl
        rotate_left
        · simp only [Act.put, List.setIfInBounds_toArray, List.set_cons_zero, List.set_cons_succ, i64_w, i32_w, xu32_w, xu8_w]
          rfl
        refine done_ (done_of HT_.out (by kernel_rfl)) ?_
        clear hHeld HT_ HW_
        go_wp2_with (fail)
        go_roundg k1
        case measure => omega
        case rel =>
          obtain ⟨a1, a2, a3, a4⟩ := HAA.out
          refine ⟨i + 1, by first | rfl | (simp; done) | (rw [wrap_id (n := (i : Int) + 1) (by omega) (by omega)]; first | rfl | (simp; done)), ⟨by have := HK.out; omega⟩, ⟨a2⟩, ⟨?_⟩, ⟨a3⟩⟩
          rw [HDT.out.1, if_neg (by omega), List.map_append]
          unfold crashF
          rw [HKN.out]
          exact a1
      · have hz0 : N = 0 := by omega
        have HZ := Aside0.mk hz0
        clear hz0
        go_wp2_with (fail)
        go_roundg k1
        case measure => omega
        case rel => exact ⟨i + 1, by first | rfl | (simp; done) | (rw [wrap_id (n := (i : Int) + 1) (by omega) (by omega)]; first | rfl | (simp; done)), ⟨by have := HK.out; omega⟩, HB1, ⟨by rw [HDT.out.1, HZ.out, if_pos rfl, List.append_nil]; exact HR1.out⟩, HV⟩
    · have hi : n = i := by have := HK.out; omega
      subst hi
      have hbl := HB.out.block g HBS.out.2.2
      have hGr := hbl.trans HG.out
      have q0 := (blk_cell hGr 1).trans rfl
      have q1 := blk_frozen hGr 1
      have HGr := Aside0.mk hGr
      clear hbl hGr hlt
      obtain ⟨A4, c4, hv4⟩ := Kd.R_slice HR.out
      obtain ⟨N4, hN4⟩ : ∃ N4 : Nat, N4 = ((crashS keep (st.take n)).map toS).length := ⟨_, rfl⟩
      rw [← hN4] at hv4
      clear hN4
      subst hv4
      go_wp2_with (fail)
      (first | go_end0 | ((try simp only [Exit.inBlock, Exit.then]); refine bodyPost_ret (results_none rfl _ _ _) rfl ?_))
      have hst : st.take n = st := List.take_of_length_le (by have := HN.out; omega)
      have hR := HR.out
      rw [hst] at hR
      refine ⟨rfl, ⟨⟨_, blk_put HGr.out 1 _ rfl, Kd.R_set hR HGr.out (fun q hq => ?_) 1 _⟩, HBS.out.2.1⟩, ?_⟩
      · have : q = 71 ∨ q = 5 := by simpa [k71, Kd.iso, Kd.pair, Kd.slice, Kd.int, Kd.string, Kd.scalar] using hq
        rcases this with e | e <;> rw [e] <;> decide
      · have hb := HB.out
        exact ⟨hb.os, hb.tape, hb.output, by simpa using hb.size, fun k hk hn => (Below.heap_setCell _ _ _ k (fun e => hn e)).trans (hb.block k hk)⟩
end Go.Proofs.Ytkdbojaoaldmbaa.G
