/- Patterns by hand: pattern, and all of them (mkX9.py). -/
import Derived.Test.YtmfpikhmeacnbaaDoorX8
namespace Go.Proofs.YtmfpikhmeacnbaaDoor.X
open Go.RowKit Go.Proofs.YtmfpikhmeacnbaaDoor.Q Go.Proofs.YtmfpikhmeacnbaaDoorW.PrintWords Go.Proofs.YtmfpikhmeacnbaaDoorW.PrintLast Go.Proofs.YtmfpikhmeacnbaaDoorW.PrintMore
set_option linter.unusedVariables false
set_option linter.unusedSimpArgs false
theorem kP_mk2 {w1 : World} {B q b : Nat} {ok : Nat → Prop} (hb : B ≤ b) (ho : ok b) (h : w1.heap[b]? = some (.cells #[.pointer (some ⟨q, 0, none⟩)] 41 (0, 0))) : kP.R 41 w1 B ok (.slice (some ⟨b, 0, none⟩) 1 1) [q] := by
  refine ⟨fun k hk => by have e : b = k := by simpa [Value.ownBlock] using hk
                         rw [← e]; exact ho, [.pointer (some ⟨q, 0, none⟩)], ?_, ?_⟩
  · exact ⟨rfl, .inr ⟨b, 1, _, rfl, hb, h, Nat.le_refl _, by unfold maxLen; omega, rfl, rfl⟩⟩
  · exact ⟨rfl, fun j p hj => by
      match j, hj with
      | 0, hj => cases hj; rfl⟩
theorem Bld.start {w4 w5 : World} {n q X : Nat} {p : Pt} (h : Tr w4 n (fun k => n ≤ k) q p) (hn : n ≤ w4.heap.size) (hb : Below w4.heap.size w4 w5) (hY : w4.heap.size < X)
    (hS : w5.heap[w4.heap.size]? = some (.cells #[.pointer (some ⟨q, 0, none⟩)] 41 (0, 0))) (hx : w5.heap[X]? = some (.cells (ndL 2 (.slice none 0 0) false false (.slice (some ⟨w4.heap.size, 0, none⟩) 1 1) 0).toArray 74 (0, 0))) :
    Bld n w5 X 2 (.alt1 p) [q] (some ⟨w4.heap.size, 0, none⟩) 1 1 := by
  obtain ⟨cs, h1, h2⟩ := h
  have hm : ∀ k, n ≤ k → k < w4.heap.size → n ≤ k → (n ≤ k ∧ k ≠ X ∧ some k ≠ (Value.slice (some ⟨w4.heap.size, 0, none⟩) 1 1).ownBlock) ∧ w5.heap[k]? = w4.heap[k]? := fun k hk hl ho => ⟨⟨ho, by omega, fun e => by
    have e' : w4.heap.size = k := by simpa [Value.ownBlock] using e.symm
    omega⟩, hb.block k hl⟩
  exact ⟨hx, kP_mk2 hn ⟨hn, by omega⟩ hS, ⟨q, cs, rfl, TT.turn (Nat.le_refl _) hm h1, h2.turn (Nat.le_refl _) hm⟩, ⟨rfl, rfl, rfl, rfl, rfl⟩, by omega⟩
def pat.T4 : Bool × List (List Nat × List Nat) := (true, [([], []), ([], []), ([1], [1]), ([2], [2]), ([3], [3]), ([], []), ([5], [5]), ([6], [6]), ([4, 7, 6], [4, 7]), ([0, 0, 1, 2, 3, 4, 5, 6, 7, 8], [0]), ([9, 0, 1, 2, 3, 4, 5, 6, 7, 8], [9]), ([10, 8, 8, 0, 1, 2, 3, 4, 5, 6, 7, 8], [8, 10])])
def pat.B4 : List Nat := [0, 0, 2, 6, 14, 0, 32, 96, 254, 511, 1023, 2047]
theorem pat.tab4 : rtab .any (opsOf Tryd.f22 4) = pat.T4 := by kernel_rfl
theorem pat.bits4 : waitsOk pat.T4.2 pat.B4 = true := by kernel_rfl
set_option maxHeartbeats 4000000 in
set_option maxRecDepth 100000 in
theorem pattern_calls {s : ByteArray} {k : Nat} (BR : ∀ k', k' < k → BrOk s k') {w : World} {b i d sz : Nat} (h : Rd w b s i d sz) (hz : sz ≤ i) {R : Res (Pt × Nat)} (hf : paF k s d i = some R) : Calls Tryd.prog 22 #[.pointer (some ⟨b, 0, none⟩)] w (PostP b s d sz w R) := by
  have HBT := Aside0.mk (show b < w.heap.size from h.lt)
  cases k with
  | zero => simp [paF] at hf
  | succ k =>
  have HBR0 := Aside0.mk (BR k (Nat.lt_succ_self _))
  have BR := Aside0.mk BR
  have HH := Aside0.mk h
  have HSZ := Aside0.mk hz
  rcases paF_head hf with ⟨a1, e1, hq, rfl⟩ | ⟨p, m1, j, hq, hN⟩
  · have HQ := Aside0.mk hq
    clear hq h hz hf
    go_enter Tryd.func22, Tryd.ntmps22
    go_wp2_with (go_at_call 35; (with_reducible refine (HBR0.out.go HH.out HSZ.out HQ.out).mono ?_); rintro e w1 ⟨rfl, hs⟩; have HS1 := Aside0.mk hs; clear hs)
    exact ⟨rfl, rfl, HS1.out⟩
  have HQ := Aside0.mk hq
  have HN := Aside0.mk hN
  have HLG := Aside0.mk ((long k).2.1 hq)
  clear hq hN h hz hf
  go_enter Tryd.func22, Tryd.ntmps22
  go_wp2_with (first
    | (go_at_call 35; (with_reducible refine (HBR0.out.go HH.out HSZ.out HQ.out).mono ?_); rintro e w1 ⟨q, rfl, h1, hs, ht⟩; have H1 := Aside0.mk h1; have HS1 := Aside0.mk hs; have HT1 := Aside0.mk ht; clear h1 hs ht)
    | ((with_reducible refine gate_dst (N := 8) rfl ?_); refine box_event ?hg (N := 8) ?hd (cs := (ndL 2 (.slice none 0 0) false false (.slice (some ⟨w1.heap.size, 0, none⟩) 1 1) 0).toArray) (t := 74) ?hr ?_; (case hd => rfl); (case hg => rfl); (case hr => first | (go_simp; done) | (go_simp; rfl)); intro X hX w2 hx5 hb5; have HBA := below_alloc (Below.refl w1.heap.size w1) (.cells #[.pointer (some ⟨q, 0, none⟩)] 41); have HBB := HBA.trans (hb5.mono HBA.size); have H2 := Aside0.mk (H1.out.below HBB); have HS2 := Aside0.mk (HS1.out.trans (Stp.of (b := b) HBB)); have HB2 := Aside0.mk (Bld.start HT1.out HS1.out.size HBB (by rw [hX]; simp) ((hb5.block _ (blk_lt (blk_new _ _))).trans (blk_new _ _)) hx5); clear HBA HBB; clear hX hx5 hb5))
  try go_frame
  clear H1 HS1 HT1
  go_loopg [] k (fun kq wr => ∃ (i2 : Nat) (acc : Pt) (n : Nat) (bs : List Nat) (A : Option Addr) (m cc : Nat), Aside0 (altF kq s d i2 acc n = some R ∧ kq ≤ k) ∧ Aside0 (Rd wr b s i2 d (sz + n)) ∧ Aside0 (Stp b w wr) ∧ Aside0 (Bld w.heap.size wr X 2 acc bs A m cc) ∧ Aside0 (sz + n ≤ i2 ∧ m ≤ i2 + 1))
  case atStart => exact ⟨j, .alt1 p, m1, [q], _, 1, 1, ⟨HN.out, Nat.le_refl _⟩, H2, HS2, HB2, ⟨by have h1 := HSZ.out; have h2 := HLG.out; omega, by omega⟩⟩
  case round =>
    clear H2 HS2 HB2 HN HQ HLG
    obtain ⟨i2, acc, n, bs, A, m, cc, HF, HR, HS, HB, HZ⟩ := hrel
    cases gk with
    | zero => exact absurd HF.out.1 (by simp [altF])
    | succ k1 =>
    have hd := altF_head HF.out.1
    have HBR := Aside0.mk (BR.out k1 (by have := HF.out.2; omega))
    have HX2 := Aside0.mk (show 2 ≤ X by have h1 := HR.out.two; have h2 := HB.out.le; have h3 := HBT.out; omega)
    have HXb := Aside0.mk (show X ≠ b by have h2 := HB.out.le; have h3 := HBT.out; omega)
    rcases hd with ⟨hp, rfl⟩ | ⟨c, hp, hc, rfl⟩ | ⟨hp, a1, e1, hq, rfl⟩ | ⟨hp, p1, m1, j1, hq, hN⟩
    · have HP := Aside0.mk hp
      clear hp
      go_wp2_with (go_at_call 36; (with_reducible refine (peek_no HR.out HP.out).mono ?_); rintro e w1 ⟨rfl, hb⟩; have HS1 := Aside0.mk (HS.out.trans (Stp.of (b := b) hb)); clear hb)
      exact ⟨rfl, rfl, HS1.out⟩
    · have HP := Aside0.mk hp
      clear hp
      go_wp2_with (go_at_call 36; (with_reducible refine (peek_ok HR.out HP.out).mono ?_); rintro e w1 ⟨rfl, hb⟩; have H1 := Aside0.mk (HR.out.below hb); have HS1 := Aside0.mk (HS.out.trans (Stp.of (b := b) hb)); have HB1 := Aside0.mk (HB.out.below hb); clear hb)
      go_ret
      exact ⟨X, rfl, H1.out, HS1.out, HB1.out.tr⟩
    · have HP := Aside0.mk hp
      have HC := Aside0.mk (show i2 + rl 124 ≤ s.size from ((peek_rune HR.out.le hp).resolve_left (by decide)).2)
      have HQ := Aside0.mk hq
      clear hp hq
      go_wp2_with (first
        | (go_at_call 36; (with_reducible refine (peek_ok HR.out HP.out).mono ?_); rintro e w1 ⟨rfl, hb⟩; have H1 := Aside0.mk (HR.out.below hb); have HS1 := Aside0.mk (HS.out.trans (Stp.of (b := b) hb)); have HB1 := Aside0.mk (HB.out.below hb); clear hb)
        | (go_at_call 37; (with_reducible refine (skip_calls H1.out rune124 HC.out).mono ?_); rintro e w2 ⟨rfl, h2, hs⟩; have H2 := Aside0.mk (show Rd w2 b s (i2 + 1) d (sz + n) from h2); have HS2 := Aside0.mk (HS1.out.trans hs); have HB2 := Aside0.mk (HB1.out.stp hs HBT.out); clear h2 hs))
      refine start_ (n := 12) (S := fun w' => w'.cell? ⟨X, 4, none⟩ = some (.slice A m cc)) (ds := [11]) #[false, false, false, false, false, false, false, false, false, false, false, false] (by kernel_rfl) rfl rfl (nd_cell (HB2.out.below (below_drew1 (Below.refl w2.heap.size w2))).blk).2.2.2.2.1 (fun hHeld => ?_); refine with_tabW pat.tab4 pat.bits4 (fun HT_ HW_ => ?_)
      have H5 := Aside0.mk (H2.out.below (below_drew1 (Below.refl _ _)))
      have HS5 := Aside0.mk (HS2.out.trans (Stp.of (b := b) (below_drew1 (Below.refl _ _))))
      have HB5 := Aside0.mk (HB2.out.below (below_drew1 (Below.refl _ _)))
      generalize w2.drew = W5 at *
      refine pure_ (i := 0) (N := some 14) (v := ?_) (a' := ?_) #[true, false, false, false, false, false, false, false, false, false, false, false] rfl rfl (any_of HT_.out (by kernel_rfl)) (fun _ _ _ h => h) (Or.inl ⟨by rfl, ?_⟩) ?_ ?_
      rotate_left
      · intro w'
        go_simp
        with_reducible rfl
      rotate_left
      · simp only [Act.put, List.setIfInBounds_toArray, List.set_cons_zero, List.set_cons_succ, i64_w, i32_w, xu32_w, xu8_w]
        rfl
      refine pure_ (i := 1) (N := some 15) (v := ?_) (a' := ?_) #[true, true, false, false, false, false, false, false, false, false, false, false] rfl rfl (any_of HT_.out (by kernel_rfl)) (fun _ _ _ h => h) (Or.inl ⟨by rfl, ?_⟩) ?_ ?_
      rotate_left
      · intro w'
        go_simp
        with_reducible rfl
      rotate_left
      · simp only [Act.put, List.setIfInBounds_toArray, List.set_cons_zero, List.set_cons_succ, i64_w, i32_w, xu32_w, xu8_w]
        rfl
      refine pure_ (i := 2) (N := some 16) (v := ?_) (a' := ?_) #[true, true, true, false, false, false, false, false, false, false, false, false] rfl rfl (any_of HT_.out (by kernel_rfl)) (fun _ _ _ h => h) (Or.inl ⟨by rfl, ?_⟩) ?_ ?_
      rotate_left
      · intro w'
        go_simp
        with_reducible rfl
      rotate_left
      · simp only [Act.put, List.setIfInBounds_toArray, List.set_cons_zero, List.set_cons_succ, i64_w, i32_w, xu32_w, xu8_w]
        rfl
      refine pure_ (i := 3) (N := some 17) (v := ?_) (a' := ?_) #[true, true, true, true, false, false, false, false, false, false, false, false] rfl rfl (any_of HT_.out (by kernel_rfl)) (fun _ _ _ h => h) (Or.inl ⟨by rfl, ?_⟩) ?_ ?_
      rotate_left
      · intro w'
        go_simp
        with_reducible rfl
      rotate_left
      · simp only [Act.put, List.setIfInBounds_toArray, List.set_cons_zero, List.set_cons_succ, i64_w, i32_w, xu32_w, xu8_w]
        rfl
      refine pure_ (i := 5) (N := some 19) (v := ?_) (a' := ?_) #[true, true, true, true, false, true, false, false, false, false, false, false] rfl rfl (any_of HT_.out (by kernel_rfl)) (fun _ _ _ h => h) (Or.inl ⟨by rfl, ?_⟩) ?_ ?_
      rotate_left
      · intro w'
        go_simp
        with_reducible rfl
      rotate_left
      · simp only [Act.put, List.setIfInBounds_toArray, List.set_cons_zero, List.set_cons_succ, i64_w, i32_w, xu32_w, xu8_w]
        rfl
      refine take_ (i := 4) (N := some 18) (v := ?_) (a' := ?_) #[true, true, true, true, true, true, false, false, false, false, false, false] rfl rfl (take_ofW HT_.out HW_.out (by kernel_rfl)) (fun _ _ _ h => h) (Or.inl ⟨by rfl, ?_⟩) hHeld ?_ ?_
      rotate_left
      · rintro w' s0
        go_simp
        with_reducible rfl
      rotate_left
      · simp only [Act.put, List.setIfInBounds_toArray, List.set_cons_zero, List.set_cons_succ, i64_w, i32_w, xu32_w, xu8_w]
        rfl
      refine one_ (i := 6) (N := some 20) #[true, true, true, true, true, true, true, false, false, false, false, false] rfl rfl (one_of HT_.out (by kernel_rfl)) (by decide) (fun K hK => ?_)
      refine goesP_ Tryd.func35 (by kernel_rfl) rfl #[.pointer (some ⟨b, 0, none⟩)] (by rfl) rfl rfl (by (try simp only [List.map_toArray, List.map_cons, List.map_nil]); first | done | rfl) ?_
      with_reducible refine (HBR.out.go H5.out (Nat.le_succ_of_le HZ.out.1) HQ.out).mono ?_
      rintro e w6 ⟨rfl, hs⟩
      exact ⟨_, rfl, rfl, rfl, HS5.out.trans hs⟩
    · have HP := Aside0.mk hp
      have HC := Aside0.mk (show i2 + rl 124 ≤ s.size from ((peek_rune HR.out.le hp).resolve_left (by decide)).2)
      have HQ := Aside0.mk hq
      have HN := Aside0.mk hN
      have HLG := Aside0.mk ((long k1).2.1 hq)
      clear hp hq hN
      go_wp2_with (first
        | (go_at_call 36; (with_reducible refine (peek_ok HR.out HP.out).mono ?_); rintro e w1 ⟨rfl, hb⟩; have H1 := Aside0.mk (HR.out.below hb); have HS1 := Aside0.mk (HS.out.trans (Stp.of (b := b) hb)); have HB1 := Aside0.mk (HB.out.below hb); clear hb)
        | (go_at_call 37; (with_reducible refine (skip_calls H1.out rune124 HC.out).mono ?_); rintro e w2 ⟨rfl, h2, hs⟩; have H2 := Aside0.mk (show Rd w2 b s (i2 + 1) d (sz + n) from h2); have HS2 := Aside0.mk (HS1.out.trans hs); have HB2 := Aside0.mk (HB1.out.stp hs HBT.out); clear h2 hs))
      refine start_ (n := 12) (S := fun w' => w'.cell? ⟨X, 4, none⟩ = some (.slice A m cc)) (ds := [11]) #[false, false, false, false, false, false, false, false, false, false, false, false] (by kernel_rfl) rfl rfl (nd_cell (HB2.out.below (below_drew1 (Below.refl w2.heap.size w2))).blk).2.2.2.2.1 (fun hHeld => ?_); refine with_tabW pat.tab4 pat.bits4 (fun HT_ HW_ => ?_)
      have H5 := Aside0.mk (H2.out.below (below_drew1 (Below.refl _ _)))
      have HS5 := Aside0.mk (HS2.out.trans (Stp.of (b := b) (below_drew1 (Below.refl _ _))))
      have HB5 := Aside0.mk (HB2.out.below (below_drew1 (Below.refl _ _)))
      generalize w2.drew = W5 at *
      refine pure_ (i := 0) (N := some 14) (v := ?_) (a' := ?_) #[true, false, false, false, false, false, false, false, false, false, false, false] rfl rfl (any_of HT_.out (by kernel_rfl)) (fun _ _ _ h => h) (Or.inl ⟨by rfl, ?_⟩) ?_ ?_
      rotate_left
      · intro w'
        go_simp
        with_reducible rfl
      rotate_left
      · simp only [Act.put, List.setIfInBounds_toArray, List.set_cons_zero, List.set_cons_succ, i64_w, i32_w, xu32_w, xu8_w]
        rfl
      refine pure_ (i := 1) (N := some 15) (v := ?_) (a' := ?_) #[true, true, false, false, false, false, false, false, false, false, false, false] rfl rfl (any_of HT_.out (by kernel_rfl)) (fun _ _ _ h => h) (Or.inl ⟨by rfl, ?_⟩) ?_ ?_
      rotate_left
      · intro w'
        go_simp
        with_reducible rfl
      rotate_left
      · simp only [Act.put, List.setIfInBounds_toArray, List.set_cons_zero, List.set_cons_succ, i64_w, i32_w, xu32_w, xu8_w]
        rfl
      refine pure_ (i := 2) (N := some 16) (v := ?_) (a' := ?_) #[true, true, true, false, false, false, false, false, false, false, false, false] rfl rfl (any_of HT_.out (by kernel_rfl)) (fun _ _ _ h => h) (Or.inl ⟨by rfl, ?_⟩) ?_ ?_
      rotate_left
      · intro w'
        go_simp
        with_reducible rfl
      rotate_left
      · simp only [Act.put, List.setIfInBounds_toArray, List.set_cons_zero, List.set_cons_succ, i64_w, i32_w, xu32_w, xu8_w]
        rfl
      refine pure_ (i := 3) (N := some 17) (v := ?_) (a' := ?_) #[true, true, true, true, false, false, false, false, false, false, false, false] rfl rfl (any_of HT_.out (by kernel_rfl)) (fun _ _ _ h => h) (Or.inl ⟨by rfl, ?_⟩) ?_ ?_
      rotate_left
      · intro w'
        go_simp
        with_reducible rfl
      rotate_left
      · simp only [Act.put, List.setIfInBounds_toArray, List.set_cons_zero, List.set_cons_succ, i64_w, i32_w, xu32_w, xu8_w]
        rfl
      refine pure_ (i := 5) (N := some 19) (v := ?_) (a' := ?_) #[true, true, true, true, false, true, false, false, false, false, false, false] rfl rfl (any_of HT_.out (by kernel_rfl)) (fun _ _ _ h => h) (Or.inl ⟨by rfl, ?_⟩) ?_ ?_
      rotate_left
      · intro w'
        go_simp
        with_reducible rfl
      rotate_left
      · simp only [Act.put, List.setIfInBounds_toArray, List.set_cons_zero, List.set_cons_succ, i64_w, i32_w, xu32_w, xu8_w]
        rfl
      refine take_ (i := 4) (N := some 18) (v := ?_) (a' := ?_) #[true, true, true, true, true, true, false, false, false, false, false, false] rfl rfl (take_ofW HT_.out HW_.out (by kernel_rfl)) (fun _ _ _ h => h) (Or.inl ⟨by rfl, ?_⟩) hHeld ?_ ?_
      rotate_left
      · rintro w' s0
        go_simp
        with_reducible rfl
      rotate_left
      · simp only [Act.put, List.setIfInBounds_toArray, List.set_cons_zero, List.set_cons_succ, i64_w, i32_w, xu32_w, xu8_w]
        rfl
      refine one_ (i := 6) (N := some 20) #[true, true, true, true, true, true, true, false, false, false, false, false] rfl rfl (one_of HT_.out (by kernel_rfl)) (by decide) (fun K hK => ?_)
      refine goes_ Tryd.func35 (by kernel_rfl) rfl #[.pointer (some ⟨b, 0, none⟩)] (by rfl) rfl rfl (by (try simp only [List.map_toArray, List.map_cons, List.map_nil]); first | done | rfl) ?_
      with_reducible refine (HBR.out.go H5.out (Nat.le_succ_of_le HZ.out.1) HQ.out).mono ?_
      rintro e w6 ⟨q, rfl, h6, hs, ht⟩
      refine ⟨_, rfl, ?_⟩
      have H6 : Aside0 (Rd w6 b s j1 d (sz + (n + m1))) := ⟨(Nat.add_assoc sz n m1) ▸ h6⟩
      have HS6 := Aside0.mk (HS5.out.trans hs)
      have HB6 := Aside0.mk (HB5.out.stp hs HBT.out)
      have HT6 := Aside0.mk ht
      have HWZ := Aside0.mk (show W5.heap.size ≤ w6.heap.size from hs.size)
      clear h6 hs ht
      refine hK.out _ _ (nd_cell HB6.out.blk).2.2.2.2.1 (fun hHeld => ?_)
      clear hK K
      refine norm_ (a' := ?_) ?_ ?_
      rotate_left
      · show Act.put _ (some 20) _ = _
        simp only [Act.put, List.setIfInBounds_toArray, List.set_cons_zero, List.set_cons_succ, i64_w, i32_w, xu32_w, xu8_w]
        rfl
      refine one_ (i := 7) (N := some 21) #[true, true, true, true, true, true, true, true, false, false, false, false] rfl rfl (one_of HT_.out (by kernel_rfl)) (by decide) (fun K hK => ?_)
      refine value_ (v := .slice (some ⟨w6.heap.size, 0, none⟩) 1 1) (w1 := w6.alloc (.cells #[.pointer (some ⟨q, 0, none⟩)] 41)) (by rfl) rfl (by first | (go_simp; done) | (go_simp; rfl)) ?_
      refine hK.out _ _ (nd_cell (blk_alloc HB6.out.blk _)).2.2.2.2.1 (fun hHeld => ?_)
      clear hK K
      refine norm_ (a' := ?_) ?_ ?_
      rotate_left
      · show Act.put _ (some 21) _ = _
        simp only [Act.put, List.setIfInBounds_toArray, List.set_cons_zero, List.set_cons_succ, i64_w, i32_w, xu32_w, xu8_w]
        rfl
      refine one_ (i := 8) (N := some 22) #[true, true, true, true, true, true, true, true, true, false, false, false] rfl rfl (one_of HT_.out (by kernel_rfl)) (by decide) (fun K hK => ?_)
      refine Kd.R_append_step kP (w0 := w6) w.heap.size (by rfl) (.tmp 18) (.tmp 21) 72 41 (.pointer none) 8 rfl Tryd.underlying72 info41 rfl (by decide) (by omega) (.slice A m cc) bs q [.pointer (some ⟨q, 0, none⟩)] (fun q => w.heap.size ≤ q ∧ q ≠ X) (fun _ => False) rfl rfl ?aP (fun _ h => h.elim) ?aF ?aO ?aB ?aS ?aL ?_
      (case aP => exact rfl)
      (case aF => exact (fun q hq => ⟨Nat.le_trans HS6.out.size hq, fun e => by have := blk_lt HB6.out.blk; omega⟩))
      (case aO => exact HB6.out.row)
      (case aB => exact Below.refl _ _)
      (case aS => exact HS6.out.size)
      (case aL => have h1 := HZ.out; have h2 := H6.out.short; have h3 := HR.out.le; have h4 := HB.out.len; omega)
      intro v7 w7 ho hb7 hg7 hat7
      obtain ⟨A7, c7, rfl⟩ := Kd.R_slice ho
      have H7 := Aside0.mk (Rd.grown H6.out (fun q hq hq2 => hb7.block q (by have h1 := HBT.out; have h2 := HH.out.two; omega)))
      have HS7 := Aside0.mk (HS6.out.grown hb7 (Nat.le_refl _))
      have HB7 := Aside0.mk (HB6.out.push (acc' := .alt acc p1) (m5 := bs.length + 1) ⟨rfl, rfl, rfl, rfl, rfl⟩ (fun h1 h2 h3 => ⟨_, _, _, rfl, h1, h2, h3⟩) HT6.out HS5.out.size (blk_lt HB5.out.blk) (fun g hg => Kd.R_lt HB5.out.row g hg) ho hg7 hat7 (by rw [List.length_append, List.length_singleton]))
      have hbx := (hg7.block X (blk_lt HB6.out.blk) (fun e => (HB6.out.row.1 X e.symm).2 rfl)).trans HB6.out.blk
      have x4 := (nd_cell hbx).2.2.2.2.1
      have xf := nd_frozen hbx 4
      rw [show (bs ++ [q]).length = bs.length + 1 from List.length_append]
      clear ho hb7 hg7 hat7 hbx
      refine hK.out _ _ x4 (fun hHeld => ?_)
      clear hK K
      refine norm_ (a' := ?_) ?_ ?_
      rotate_left
      · show Act.put _ (some 22) _ = _
        simp only [Act.put, List.setIfInBounds_toArray, List.set_cons_zero, List.set_cons_succ, i64_w, i32_w, xu32_w, xu8_w]
        rfl
      refine pure_ (i := 9) (N := some 23) (v := ?_) (a' := ?_) #[true, true, true, true, true, true, true, true, true, true, false, false] rfl rfl (any_of HT_.out (by kernel_rfl)) (fun _ _ _ h => h) (Or.inl ⟨by rfl, ?_⟩) ?_ ?_
      rotate_left
      · intro w'
        go_simp
        with_reducible rfl
      rotate_left
      · simp only [Act.put, List.setIfInBounds_toArray, List.set_cons_zero, List.set_cons_succ, i64_w, i32_w, xu32_w, xu8_w]
        rfl
      refine pure_ (i := 10) (N := some 24) (v := ?_) (a' := ?_) #[true, true, true, true, true, true, true, true, true, true, true, false] rfl rfl (any_of HT_.out (by kernel_rfl)) (fun _ _ _ h => h) (Or.inl ⟨by rfl, ?_⟩) ?_ ?_
      rotate_left
      · intro w'
        go_simp
        with_reducible rfl
      rotate_left
      · simp only [Act.put, List.setIfInBounds_toArray, List.set_cons_zero, List.set_cons_succ, i64_w, i32_w, xu32_w, xu8_w]
        rfl
      refine last_ (i := 11) (N := none) #[true, true, true, true, true, true, true, true, true, true, true, true] rfl rfl (one_of HT_.out (by kernel_rfl)) (by decide) (fun K hK => ?_)
      refine skip_ (w1 := w7.setCell ⟨X, 4, none⟩ (.slice A7 (bs.length + 1) c7)) (by rfl) rfl (by first | (go_simp; done) | (go_simp; rfl)) ?_
      refine hK.out _ _ ?_
      clear hK K
      refine done_ (done_of HT_.out (by kernel_rfl)) ?_
      go_wp2_with (fail)
      go_roundg k1
      case measure => omega
      case rel => exact ⟨j1, _, n + m1, _, A7, bs.length + 1, c7, ⟨HN.out, by have := HF.out.2; omega⟩, ⟨Rd.far H7.out HXb.out HX2.out 4 _⟩, ⟨HS7.out.far HB.out.le 4 _⟩, ⟨HB7.out⟩, ⟨by have h1 := HZ.out; have h2 := HLG.out; omega, by have h1 := HZ.out; have h2 := HLG.out; have h3 := HB.out.len; omega⟩⟩
/-- All of the parser's functions, with any fuel. -/
theorem parser_ok (s : ByteArray) : ∀ k k', k' ≤ k → AtOk s k' ∧ BrOk s k' ∧ PaOk s k'
  | 0, k', hk => by
    obtain rfl : k' = 0 := by omega
    exact ⟨⟨fun _ _ _ h => by simp [atF] at h⟩, ⟨fun _ _ h => by simp [brF] at h⟩, ⟨fun _ _ h => by simp [paF] at h⟩⟩
  | k + 1, k', hk => by
    have ih := parser_ok s k
    rcases Nat.lt_or_eq_of_le hk with hk | rfl
    · exact ih k' (by omega)
    · exact ⟨⟨fun h hz hc hf => atom_calls (ih k (Nat.le_refl _)).2.2 h hz hc hf⟩, ⟨fun h hz hf => branch_calls (fun k' hk => (ih k' (by omega)).1) h hz hf⟩, ⟨fun h hz hf => pattern_calls (fun k' hk => (ih k' (by omega)).2.1) h hz hf⟩⟩
end Go.Proofs.YtmfpikhmeacnbaaDoor.X
