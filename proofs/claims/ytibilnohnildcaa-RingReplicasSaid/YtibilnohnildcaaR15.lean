/- The ring by hand: Sub. -/
import Derived.Test.YtibilnohnildcaaR14
import Derived.Sort.OwnSortedInts
namespace Go.Proofs.Ytibilnohnildcaa.R
open Go.RowKit Go.Proofs.Ytibilnohnildcaa.Q Go.Proofs.YtibilnohnildcaaW.PrintWords Go.Proofs.YtibilnohnildcaaW.PrintLast Go.Proofs.YtibilnohnildcaaW.PrintMore
set_option linter.unusedVariables false
set_option linter.unusedSimpArgs false
theorem min2_mn (k k' : IntKind) (x y : Int) : Builtin.min2 (.int k x) (.int k' y) = pure (.int k (mn x y)) := by rw [min2_int]; rfl
attribute [local go_sem] min2_mn min_two
def rsub.T10 : Bool × List (List Nat × List Nat) := (true, [([], []), ([], []), ([1], [1]), ([], []), ([3], [3]), ([4], [4]), ([2, 5], [2, 5]), ([6, 6], [6]), ([], []), ([0, 7, 8, 7], [0, 7, 8]), ([], []), ([10, 9, 9, 0, 1, 2, 3, 4, 5, 6, 7, 8, 9, 10], [9, 10])])
def rsub.B10 : List Nat := [0, 0, 2, 0, 8, 24, 62, 126, 0, 511, 0, 2047]
theorem rsub.tab10 : rtab .any (opsOf Try.f13 10) = rsub.T10 := by kernel_rfl
theorem rsub.bits10 : waitsOk rsub.T10.2 rsub.B10 = true := by kernel_rfl
/-- The nodes that are picked for a tenant, and what is left. -/
def subT (sp : List S52) (n : Nat) (t : ByteArray) : Nat → List Int × List Bool
  | 0 => ([], upto n)
  | k + 1 => ((subT sp n t k).1 ++ [(firstT sp (xx (strB t ++ [(k : Int)])) (subT sp n t k).2).f1], (subT sp n t k).2.set (firstT sp (xx (strB t ++ [(k : Int)])) (subT sp n t k).2).f1.toNat false)
theorem inv_subT {n : Nat} {sp : List S52} (hr : IsRing n sp) (hn : n ≤ 16) (t : ByteArray) : ∀ k, k ≤ n → Inv n (allT n) (subT sp n t k).1 (subT sp n t k).2 ∧ (subT sp n t k).1.length = k := by
  intro k
  induction k with
  | zero => intro _; exact ⟨inv_all hn, rfl⟩
  | succ k ih =>
    intro hk
    obtain ⟨h1, h2⟩ := ih (by omega)
    refine ⟨(h1.pick hr (by rw [allT_len]; omega) _).2.2.2.2.2, ?_⟩
    show (_ ++ [_]).length = k + 1
    rw [List.length_append, h2]
    rfl
/-- The nodes of a tenant's ring of a size, rising. -/
def subF (sp : List S52) (n : Nat) (t : ByteArray) (size : Int) : List Int := (subT sp n t (mn size (n : Int)).toNat).1.mergeSort (fun x y => decide (x ≤ y))
set_option maxHeartbeats 4000000 in
set_option maxRecDepth 100000 in
theorem sub_small {w : World} {g n : Nat} {sp : List S52} (h : RingG w g n sp) (t : ByteArray) (size : Int) (h3 : size < 3) : Calls Try.prog 13 #[.pointer (some ⟨g, 0, none⟩), .string t, .int .i64 size] w fun e w' => e = .returned (.tuple #[.slice none 0 0, .int .i64 1]) ∧ w' = w := by
  have HR := Aside0.mk h
  clear h
  go_enter Try.func13, Try.ntmps13
  go_wp2_with (go_at_call 27; (with_reducible refine (is_calls HR.out).mono ?_); rintro e w9 ⟨rfl, h9⟩; subst w9)
  go_ret2
  exact ⟨rfl, rfl⟩
set_option maxHeartbeats 8000000 in
set_option maxRecDepth 100000 in
theorem sub_calls {w : World} {g n : Nat} {sp : List S52} (h : RingG w g n sp) (hr : IsRing n sp) (t : ByteArray) (hts : t.size ≤ 1073741824) (size : Int) (h3 : 3 ≤ size) (hn3 : 3 ≤ n) : Calls Try.prog 13 #[.pointer (some ⟨g, 0, none⟩), .string t, .int .i64 size] w fun e w' => ∃ v, e = .returned (.tuple #[v, .int .i64 0]) ∧ (Kd.int .i64).R 3 w' w.heap.size (fun k => w.heap.size < k) v (subF sp n t size) ∧ Below w.heap.size w w' := by
  have HR := Aside0.mk h
  have HI := Aside0.mk hr
  have HTS := Aside0.mk hts
  have htop := h.top
  have b3 : ¬ size < 3 := by omega
  obtain ⟨M, hM⟩ : ∃ M : Nat, mn size (n : Int) = (M : Int) := ⟨(mn size (n : Int)).toNat, by unfold mn; split <;> omega⟩
  have HMM := Aside0.mk (show 3 ≤ M ∧ M ≤ n from by unfold mn at hM; split at hM <;> omega)
  have HM := Aside0.mk hM
  clear h hr hts hM h3
  go_enter Try.func13, Try.ntmps13
  go_wp2_with (first
    | (go_at_call 27; (with_reducible refine (is_calls HR.out).mono ?_); rintro e w9 ⟨rfl, h9⟩; subst w9)
    | (go_at_call 28; (with_reducible refine (all_calls HR.out).mono ?_); rintro e w2 ⟨rfl, hb⟩; have HB2 := Aside0.mk hb; clear hb)
    | ((with_reducible refine gate_dst (N := 8) rfl ?_); refine box_event ?hg (N := 8) ?hd (cs := ((List.replicate 16 false).map Value.bool).toArray) (t := 55) ?hr ?_; (case hd => rfl); (case hg => rfl); (case hr => first | (go_simp; done) | (go_simp; rfl)); intro F hF w4 h4 hb4; have H4 := Aside0.mk (arr_of (L := List.replicate 16 false) h4 rfl (by simp)); have HF := Aside0.mk hF; have HB4 := Aside0.mk hb4; clear h4 hb4 hF)
    | (refine store_arr rfl (.tmp 8) (.tmp 18) rfl F (List.replicate 16 false) (upto n) rfl rfl H4.out (upto_len n) ?_; intro w5 hA5 hk5 hb5; have HA5 := Aside0.mk hA5; have HB5 := Aside0.mk (below_step HB2.out (hb5 w2 (by rw [HF.out]; exact Nat.le_refl _) HB4.out)); have HFZ0 := Aside0.mk (show w.heap.size ≤ F from by rw [HF.out]; exact HB2.out.size); clear hA5 hk5 hb5))
  clear H4 HF HB4
  have HFZ := Aside0.mk HFZ0.out
  go_loopg [9, 10] (M + 1) (fun kq v9 v10 wr => ∃ (k : Nat), v10 = .int .i64 k ∧ Aside0 (kq + k = M + 1 ∧ k ≤ M) ∧ Aside0 ((Kd.int .i64).R 3 wr w.heap.size (fun q => F < q) v9 (subT sp n t k).1) ∧ Aside0 (Arr wr F (subT sp n t k).2) ∧ Aside0 (Below w.heap.size w wr))
  case atStart => exact ⟨0, rfl, ⟨by omega⟩, ⟨Kd.R_nil _ _ _ _ _⟩, HA5, HB5⟩
  case round =>
    obtain ⟨k, rfl, HKK, HRO, HA, HB⟩ := hrel
    clear HA5 HB5
    cases gk with
    | zero => have := HKK.out; omega
    | succ k1 =>
    obtain ⟨hv1, hv2⟩ := inv_subT HI.out htop t k (by have := HKK.out; have := HMM.out; omega)
    have HRR := Aside0.mk (HR.out.below HB.out)
    have c0 := HRR.out.cell
    have hM := HM.out
    by_cases hlt : k < M
    · have hk1 : (k : Int) < (M : Int) := by omega
      obtain ⟨q1, q2, q3, q4, q5, q6⟩ := hv1.pick HI.out (by rw [hv2, allT_len]; have := HMM.out; omega) (xx (strB t ++ [(k : Int)]))
      have hst : subT sp n t (k + 1) = ((subT sp n t k).1 ++ [(firstT sp (xx (strB t ++ [(k : Int)])) (subT sp n t k).2).f1], (subT sp n t k).2.set (firstT sp (xx (strB t ++ [(k : Int)])) (subT sp n t k).2).f1.toNat false) := rfl
      have HST := Aside0.mk hst
      have HLL := Aside0.mk (And.intro hv1.len hv2)
      have HBD := Aside0.mk (HI.out.bound htop)
      generalize (subT sp n t k).1 = OUT at *
      generalize (subT sp n t k).2 = LL at *
      have HSB := Aside0.mk (And.intro q2 (show (firstT sp (xx (strB t ++ [(k : Int)])) LL).f1 < 16 by omega))
      have hw8 := wrap8 (x := (k : Int)) (by omega) (by have := HMM.out; omega)
      obtain ⟨A9, c9, hv9⟩ := Kd.R_slice HRO.out
      subst hv9
      rw [hv2] at HRO ⊢
      clear hst hv1 hv2 q1 q2 q3 q4 q5 q6 hlt
      go_wp2_with (fail)
      refine start_ (n := 12) (S := fun w' => Arr w' F LL) (ds := []) #[false, false, false, false, false, false, false, false, false, false, false, false] (by kernel_rfl) rfl rfl (HA.out.below (below_drew (Below.refl _ _))) (fun hHeld => ?_); refine with_tabW rsub.tab10 rsub.bits10 (fun HT_ HW_ => ?_)
      refine pure_ (i := 0) (N := some 30) (v := ?_) (a' := ?_) #[true, false, false, false, false, false, false, false, false, false, false, false] rfl rfl (any_of HT_.out (by kernel_rfl)) (fun _ _ _ h => h) (Or.inl ⟨by rfl, ?_⟩) ?_ ?_
      rotate_left
      · intro w'
        go_simp
        with_reducible rfl
      rotate_left
      · simp only [Act.put, List.setIfInBounds_toArray, List.set_cons_zero, List.set_cons_succ, i64_w, i32_w, xu32_w, xu8_w]
        rfl
      refine pure_ (i := 1) (N := some 31) (v := ?_) (a' := ?_) #[true, true, false, false, false, false, false, false, false, false, false, false] rfl rfl (any_of HT_.out (by kernel_rfl)) (fun _ _ _ h => h) (Or.inl ⟨by rfl, ?_⟩) ?_ ?_
      rotate_left
      · intro w'
        go_simp
        with_reducible rfl
      rotate_left
      · simp only [Act.put, List.setIfInBounds_toArray, List.set_cons_zero, List.set_cons_succ, i64_w, i32_w, xu32_w, xu8_w]
        rfl
      refine pure_ (i := 3) (N := some 33) (v := ?_) (a' := ?_) #[true, true, false, true, false, false, false, false, false, false, false, false] rfl rfl (any_of HT_.out (by kernel_rfl)) (fun _ _ _ h => h) (Or.inl ⟨by rfl, ?_⟩) ?_ ?_
      rotate_left
      · intro w'
        go_simp
        with_reducible rfl
      rotate_left
      · simp only [Act.put, List.setIfInBounds_toArray, List.set_cons_zero, List.set_cons_succ, i64_w, i32_w, xu32_w, xu8_w]
        rfl
      refine pure_ (i := 4) (N := some 34) (v := ?_) (a' := ?_) #[true, true, false, true, true, false, false, false, false, false, false, false] rfl rfl (any_of HT_.out (by kernel_rfl)) (fun _ _ _ h => h) (Or.inl ⟨by rfl, ?_⟩) ?_ ?_
      rotate_left
      · intro w'
        go_simp
        with_reducible rfl
      rotate_left
      · simp only [Act.put, List.setIfInBounds_toArray, List.set_cons_zero, List.set_cons_succ, i64_w, i32_w, xu32_w, xu8_w]
        rfl
      refine take_ (i := 8) (N := some 38) (v := ?_) (a' := ?_) #[true, true, false, true, true, false, false, false, true, false, false, false] rfl rfl (take_ofW HT_.out HW_.out (by kernel_rfl)) (fun _ _ _ h => h) ?hy hHeld ?ha ?_
      case hy =>
        refine yieldsIf_load_mid ?w1 55 (.tmp 8) ?w2 F 0 ?w3 (LL.map Value.bool) _ ?w4 Try.underlying55 rfl ?w5
        case w1 => rfl
        case w2 => rfl
        case w3 => rfl
        case w4 => exact fun w' h => Arr.range h
        case w5 => rw [size55, List.length_map, HLL.out.1]
      case ha =>
        simp only [Act.put, List.setIfInBounds_toArray, List.set_cons_zero, List.set_cons_succ, i64_w, i32_w, xu32_w, xu8_w]
        rfl
      have hB0 : Below wr.heap.size wr wr.drew := below_drew (Below.refl _ _)
      refine join_ (σ := Nat × Nat × Nat × Option Addr × Nat × Nat) 1 #[true, true, true, true, true, true, true, true, true, true, true, false] (fun s_ => [(32, .slice (some ⟨s_.1, 0, none⟩) t.size s_.2.1), (35, .slice (some ⟨s_.2.2.1, 0, none⟩) 1 1), (36, .slice s_.2.2.2.1 (t.size + 1) s_.2.2.2.2.1), (37, .int .u64 (xx (strB t ++ [(k : Int)]))), (39, .agg #[.int .u64 (firstT sp (xx (strB t ++ [(k : Int)])) LL).f0, .int .i64 (firstT sp (xx (strB t ++ [(k : Int)])) LL).f1]), (11, .pointer (some ⟨s_.2.2.2.2.2, 0, none⟩))]) (fun s_ w' => Below wr.heap.size wr w' ∧ w'.heap[s_.2.2.2.2.2]? = some (.cells #[.int .u64 0, .int .i64 0] 52 (0, 0)) ∧ wr.heap.size ≤ s_.2.2.2.2.2) ?_ (fun H61 => ?_)
      · rintro ⟨b1, cap1, b2, A1, c1, G⟩ w' hF
        dsimp only at hF ⊢
        obtain ⟨hB, hG, hGg⟩ := hF
        refine norm_ (a' := ?_) ?_ ?_
        rotate_left
        · show putAll _ _ = _
          simp only [putAll, Act.put, List.setIfInBounds_toArray, List.set_cons_zero, List.set_cons_succ, i64_w, i32_w, xu32_w, xu8_w]
          rfl
        obtain ⟨t0, t1, t2, t3⟩ := cells52 hG
        refine one_ (i := 11) (N := none) #[true, true, true, true, true, true, true, true, true, true, true, true] rfl rfl (one_of HT_.out (by kernel_rfl)) (by decide) (fun K hK => ?_)
        obtain ⟨w6, hw6⟩ : ∃ w6 : World, w6 = (w'.setCell ⟨G, 0, none⟩ (.int .u64 (firstT sp (xx (strB t ++ [(k : Int)])) LL).f0)).setCell ⟨G, 1, none⟩ (.int .i64 (firstT sp (xx (strB t ++ [(k : Int)])) LL).f1) := ⟨_, rfl⟩
        have hB6 : Below wr.heap.size wr w6 := by rw [hw6]; exact below_set (below_set hB hGg) hGg
        have hG6 : w6.heap[G]? = some (.cells #[.int .u64 (firstT sp (xx (strB t ++ [(k : Int)])) LL).f0, .int .i64 (firstT sp (xx (strB t ++ [(k : Int)])) LL).f1] 52 (0, 0)) := by rw [hw6]; exact blk_put (blk_put hG 0 _ rfl) 1 _ rfl
        refine skip_ (w1 := w6) (by rfl) rfl (by rw [hw6]; first | (go_simp; done) | (go_simp; rfl)) ?_
        refine hK.out _ _ (HA.out.below hB6) (fun _ => ?_)
        clear hK K t0 t1 t2 t3 hw6 hG hB
        refine done_ (done_of HT_.out (by kernel_rfl)) ?_
        clear HT_ HW_
        have HA6 := Aside0.mk (HA.out.below hB6)
        have HR6 := Aside0.mk (Kd.R_below HRO.out hB6)
        have H6 := Aside0.mk hG6
        have HB6 := Aside0.mk (below_step HB.out hB6)
        have HFG := Aside0.mk (show F < G from by have := HA.out.lt; omega)
        have HGR := Aside0.mk hGg
        obtain ⟨t0, t1, t2, t3⟩ := cells52 hG6
        generalize (firstT sp (xx (strB t ++ [(k : Int)])) LL) = s at *
        have k1c := HA6.out.cell (i := s.f1.toNat) (by have := HSB.out; omega)
        have k2c := HA6.out.frozen (i := s.f1.toNat) (by have := HSB.out; omega)
        have hs0 := HSB.out.1
        have hs1 := HSB.out.2
        have u1 := (World.cell?_setCell_other w6 ⟨F, s.f1.toNat, none⟩ ⟨G, 1, none⟩ (.bool false) (fun e => by injection e with e _; have := HFG.out; omega)).trans t1
        clear hB6 hG6 hGg hB0
        go_wp2_with ((with_reducible refine gate_builtin (b := .append) (xs := #[.tmp 43, .tmp 46]) rfl ?_); at_builtin; refine Kd.R_append (Kd.int .i64) (w0 := w) w.heap.size rfl (.tmp 43) (.tmp 46) 28 3 (.int .i64 0) 8 rfl Try.underlying28 info3 rfl (by decide) (by omega) (.slice A9 k c9) OUT s.f1 [.int .i64 s.f1] (fun k => F < k) (fun _ => False) rfl (by show Value.slice (some ⟨w6.heap.size, 0, none⟩) 1 1 = _; simp) ?aP (fun _ h => h.elim) ?aF ?aO ?aB ?aS ?aL ?_; (case aP => exact rfl); (case aF => exact fun q hq => by have h1 := HFG.out; have h2 := blk_lt H6.out; have : w6.heap.size ≤ q := (by simpa using hq); omega); (case aO => exact Kd.R_far (p := ⟨F, s.f1.toNat, none⟩) HR6.out (fun q hq e => by have hq : F < q := hq; have e : q = F := e; omega) _); (case aB => exact below_set HB6.out HFZ.out); (case aS => have h1 := HB6.out.size; simpa using h1); (case aL => have := HLL.out.2; have := HKK.out; have := HMM.out; omega); intro v7 w7 ho hb hg hat; have HAPP := Aside0.mk (And.intro ho (And.intro hb hg)); have HA7 := Aside0.mk ((HA6.out.set (i := s.f1.toNat) (by have := HSB.out; omega) false).move (hg.block F (by have := HA6.out.lt; simpa using this) (fun e => by have := HR6.out.1 F e.symm; omega))); clear ho hb hg hat)
        go_roundg k1
        case measure => omega
        case rel => exact ⟨k + 1, by first | rfl | (simp; done) | (rw [wrap_id (n := (k : Int) + 1) (by omega) (by have := HKK.out; have := HMM.out; omega)]; first | rfl | (simp; done)), ⟨by have := HKK.out; omega⟩, ⟨by rw [HST.out]; exact HAPP.out.1⟩, ⟨by rw [HST.out]; exact HA7.out⟩, ⟨HAPP.out.2.1⟩⟩
      refine join_ (σ := Nat × Nat × Nat × Option Addr × Nat × Nat) 2 #[true, true, true, true, true, true, true, true, true, true, false, false] (fun s_ => [(32, .slice (some ⟨s_.1, 0, none⟩) t.size s_.2.1), (35, .slice (some ⟨s_.2.2.1, 0, none⟩) 1 1), (36, .slice s_.2.2.2.1 (t.size + 1) s_.2.2.2.2.1), (37, .int .u64 (xx (strB t ++ [(k : Int)]))), (39, .agg #[.int .u64 (firstT sp (xx (strB t ++ [(k : Int)])) LL).f0, .int .i64 (firstT sp (xx (strB t ++ [(k : Int)])) LL).f1])]) (fun s_ w' => Below wr.heap.size wr w') ?_ (fun H60 => ?_)
      · rintro ⟨b1, cap1, b2, A1, c1, G⟩ w' hF
        dsimp only at hF ⊢
        have hB := hF
        refine norm_ (a' := ?_) ?_ ?_
        rotate_left
        · show putAll _ _ = _
          simp only [putAll, Act.put, List.setIfInBounds_toArray, List.set_cons_zero, List.set_cons_succ, i64_w, i32_w, xu32_w, xu8_w]
          rfl
        refine one_ (i := 10) (N := some 11) #[true, true, true, true, true, true, true, true, true, true, true, false] rfl rfl (one_of HT_.out (by kernel_rfl)) (by decide) (fun K hK => ?_)
        · have hb2 : Below w'.heap.size w' (w'.alloc (.cells #[.int .u64 0, .int .i64 0] 52)) := below_alloc (Below.refl _ _) _
          refine value_ (v := .pointer (some ⟨w'.heap.size, 0, none⟩)) (w1 := w'.alloc (.cells #[.int .u64 0, .int .i64 0] 52)) (by rfl) rfl (by first | (go_simp; done) | (go_simp; rfl)) ?_
          refine hK.out _ _ (HA.out.below (below_step hB hb2)) (fun _ => ?_)
          exact norm_ (by rfl) (H61 ⟨b1, cap1, b2, A1, c1, w'.heap.size⟩ (w'.alloc (.cells #[.int .u64 0, .int .i64 0] 52)) ⟨(below_step hB hb2), heap_alloc_new w' _, hB.size⟩)
      refine join_ (σ := Nat × Nat × Nat × Option Addr × Nat × Nat) 2 #[true, true, true, true, true, true, true, true, true, false, true, false] (fun s_ => [(32, .slice (some ⟨s_.1, 0, none⟩) t.size s_.2.1), (35, .slice (some ⟨s_.2.2.1, 0, none⟩) 1 1), (36, .slice s_.2.2.2.1 (t.size + 1) s_.2.2.2.2.1), (37, .int .u64 (xx (strB t ++ [(k : Int)]))), (11, .pointer (some ⟨s_.2.2.2.2.2, 0, none⟩))]) (fun s_ w' => Below wr.heap.size wr w' ∧ w'.heap[s_.2.2.2.2.2]? = some (.cells #[.int .u64 0, .int .i64 0] 52 (0, 0)) ∧ wr.heap.size ≤ s_.2.2.2.2.2) ?_ (fun H51 => ?_)
      · rintro ⟨b1, cap1, b2, A1, c1, G⟩ w' hF
        dsimp only at hF ⊢
        obtain ⟨hB, hG, hGg⟩ := hF
        refine norm_ (a' := ?_) ?_ ?_
        rotate_left
        · show putAll _ _ = _
          simp only [putAll, Act.put, List.setIfInBounds_toArray, List.set_cons_zero, List.set_cons_succ, i64_w, i32_w, xu32_w, xu8_w]
          rfl
        refine one_ (i := 9) (N := some 39) #[true, true, true, true, true, true, true, true, true, true, true, false] rfl rfl (one_of HT_.out (by kernel_rfl)) (by decide) (fun K hK => ?_)
        · refine goes_ Try.func29 (by kernel_rfl) rfl #[.pointer (some ⟨g, 0, none⟩), .int .u64 (xx (strB t ++ [(k : Int)])), .agg (LL.map Value.bool).toArray] (by rfl) rfl rfl (by (try simp only [List.map_toArray, List.map_cons, List.map_nil]); first | done | rfl) ?_
          with_reducible refine (first_calls ((HRR.out).below hB) (xx (strB t ++ [(k : Int)])) LL HLL.out.1 HBD.out).mono ?_
          rintro e w2 ⟨rfl, hb2⟩
          refine ⟨_, rfl, ?_⟩
          refine hK.out _ _ (HA.out.below (below_step hB hb2)) (fun _ => ?_)
          exact norm_ (by rfl) (H61 ⟨b1, cap1, b2, A1, c1, G⟩ w2 ⟨(below_step hB hb2), (hb2.block _ (blk_lt hG)).trans hG, hGg⟩)
      refine join_ (σ := Nat × Nat × Nat × Option Addr × Nat × Nat) 3 #[true, true, true, true, true, true, true, true, true, false, false, false] (fun s_ => [(32, .slice (some ⟨s_.1, 0, none⟩) t.size s_.2.1), (35, .slice (some ⟨s_.2.2.1, 0, none⟩) 1 1), (36, .slice s_.2.2.2.1 (t.size + 1) s_.2.2.2.2.1), (37, .int .u64 (xx (strB t ++ [(k : Int)])))]) (fun s_ w' => Below wr.heap.size wr w') ?_ (fun H50 => ?_)
      · rintro ⟨b1, cap1, b2, A1, c1, G⟩ w' hF
        dsimp only at hF ⊢
        have hB := hF
        refine norm_ (a' := ?_) ?_ ?_
        rotate_left
        · show putAll _ _ = _
          simp only [putAll, Act.put, List.setIfInBounds_toArray, List.set_cons_zero, List.set_cons_succ, i64_w, i32_w, xu32_w, xu8_w]
          rfl
        refine two_ (i := 9) (j := 10) (Ni := some 39) (Nj := some 11) #[true, true, true, true, true, true, true, true, true, true, false, false] #[true, true, true, true, true, true, true, true, true, false, true, false] rfl rfl rfl rfl (two_of HT_.out (by kernel_rfl)) (by decide) (by decide) (fun K hK => ?_) (fun K hK => ?_)
        · refine goes_ Try.func29 (by kernel_rfl) rfl #[.pointer (some ⟨g, 0, none⟩), .int .u64 (xx (strB t ++ [(k : Int)])), .agg (LL.map Value.bool).toArray] (by rfl) rfl rfl (by (try simp only [List.map_toArray, List.map_cons, List.map_nil]); first | done | rfl) ?_
          with_reducible refine (first_calls ((HRR.out).below hB) (xx (strB t ++ [(k : Int)])) LL HLL.out.1 HBD.out).mono ?_
          rintro e w2 ⟨rfl, hb2⟩
          refine ⟨_, rfl, ?_⟩
          refine hK.out _ _ (HA.out.below (below_step hB hb2)) (fun _ => ?_)
          exact norm_ (by rfl) (H60 ⟨b1, cap1, b2, A1, c1, G⟩ w2 (below_step hB hb2))
        · have hb2 : Below w'.heap.size w' (w'.alloc (.cells #[.int .u64 0, .int .i64 0] 52)) := below_alloc (Below.refl _ _) _
          refine value_ (v := .pointer (some ⟨w'.heap.size, 0, none⟩)) (w1 := w'.alloc (.cells #[.int .u64 0, .int .i64 0] 52)) (by rfl) rfl (by first | (go_simp; done) | (go_simp; rfl)) ?_
          refine hK.out _ _ (HA.out.below (below_step hB hb2)) (fun _ => ?_)
          exact norm_ (by rfl) (H51 ⟨b1, cap1, b2, A1, c1, w'.heap.size⟩ (w'.alloc (.cells #[.int .u64 0, .int .i64 0] 52)) ⟨(below_step hB hb2), heap_alloc_new w' _, hB.size⟩)
      refine join_ (σ := Nat × Nat × Nat × Option Addr × Nat × Nat) 3 #[true, true, true, true, true, true, true, false, true, false, true, false] (fun s_ => [(32, .slice (some ⟨s_.1, 0, none⟩) t.size s_.2.1), (35, .slice (some ⟨s_.2.2.1, 0, none⟩) 1 1), (36, .slice s_.2.2.2.1 (t.size + 1) s_.2.2.2.2.1), (11, .pointer (some ⟨s_.2.2.2.2.2, 0, none⟩))]) (fun s_ w' => Below wr.heap.size wr w' ∧ (Kd.int .u8).C w' s_.2.2.2.1 (strB t ++ [(k : Int)]).length (strB t ++ [(k : Int)]) ∧ (strB t ++ [(k : Int)]).length ≤ s_.2.2.2.2.1 ∧ w'.heap[s_.2.2.2.2.2]? = some (.cells #[.int .u64 0, .int .i64 0] 52 (0, 0)) ∧ wr.heap.size ≤ s_.2.2.2.2.2) ?_ (fun H41 => ?_)
      · rintro ⟨b1, cap1, b2, A1, c1, G⟩ w' hF
        dsimp only at hF ⊢
        obtain ⟨hB, hrow, hle, hG, hGg⟩ := hF
        refine norm_ (a' := ?_) ?_ ?_
        rotate_left
        · show putAll _ _ = _
          simp only [putAll, Act.put, List.setIfInBounds_toArray, List.set_cons_zero, List.set_cons_succ, i64_w, i32_w, xu32_w, xu8_w]
          rfl
        refine one_ (i := 7) (N := some 37) #[true, true, true, true, true, true, true, true, true, false, true, false] rfl rfl (one_of HT_.out (by kernel_rfl)) (by decide) (fun K hK => ?_)
        · refine goes_ Try.func30 (by kernel_rfl) rfl #[.slice A1 (t.size + 1) c1] (by rfl) rfl rfl (by (try simp only [List.map_toArray, List.map_cons, List.map_nil]); first | done | rfl) ?_
          with_reducible refine (xx_t hrow hle HTS.out).mono ?_
          rintro e w2 ⟨rfl, hb2⟩
          refine ⟨_, rfl, ?_⟩
          refine hK.out _ _ (HA.out.below (below_step hB hb2)) (fun _ => ?_)
          exact norm_ (by rfl) (H51 ⟨b1, cap1, b2, A1, c1, G⟩ w2 ⟨(below_step hB hb2), (hb2.block _ (blk_lt hG)).trans hG, hGg⟩)
      refine join_ (σ := Nat × Nat × Nat × Option Addr × Nat × Nat) 4 #[true, true, true, true, true, true, true, false, true, false, false, false] (fun s_ => [(32, .slice (some ⟨s_.1, 0, none⟩) t.size s_.2.1), (35, .slice (some ⟨s_.2.2.1, 0, none⟩) 1 1), (36, .slice s_.2.2.2.1 (t.size + 1) s_.2.2.2.2.1)]) (fun s_ w' => Below wr.heap.size wr w' ∧ (Kd.int .u8).C w' s_.2.2.2.1 (strB t ++ [(k : Int)]).length (strB t ++ [(k : Int)]) ∧ (strB t ++ [(k : Int)]).length ≤ s_.2.2.2.2.1) ?_ (fun H40 => ?_)
      · rintro ⟨b1, cap1, b2, A1, c1, G⟩ w' hF
        dsimp only at hF ⊢
        obtain ⟨hB, hrow, hle⟩ := hF
        refine norm_ (a' := ?_) ?_ ?_
        rotate_left
        · show putAll _ _ = _
          simp only [putAll, Act.put, List.setIfInBounds_toArray, List.set_cons_zero, List.set_cons_succ, i64_w, i32_w, xu32_w, xu8_w]
          rfl
        refine two_ (i := 7) (j := 10) (Ni := some 37) (Nj := some 11) #[true, true, true, true, true, true, true, true, true, false, false, false] #[true, true, true, true, true, true, true, false, true, false, true, false] rfl rfl rfl rfl (two_of HT_.out (by kernel_rfl)) (by decide) (by decide) (fun K hK => ?_) (fun K hK => ?_)
        · refine goes_ Try.func30 (by kernel_rfl) rfl #[.slice A1 (t.size + 1) c1] (by rfl) rfl rfl (by (try simp only [List.map_toArray, List.map_cons, List.map_nil]); first | done | rfl) ?_
          with_reducible refine (xx_t hrow hle HTS.out).mono ?_
          rintro e w2 ⟨rfl, hb2⟩
          refine ⟨_, rfl, ?_⟩
          refine hK.out _ _ (HA.out.below (below_step hB hb2)) (fun _ => ?_)
          exact norm_ (by rfl) (H50 ⟨b1, cap1, b2, A1, c1, G⟩ w2 (below_step hB hb2))
        · have hb2 : Below w'.heap.size w' (w'.alloc (.cells #[.int .u64 0, .int .i64 0] 52)) := below_alloc (Below.refl _ _) _
          refine value_ (v := .pointer (some ⟨w'.heap.size, 0, none⟩)) (w1 := w'.alloc (.cells #[.int .u64 0, .int .i64 0] 52)) (by rfl) rfl (by first | (go_simp; done) | (go_simp; rfl)) ?_
          refine hK.out _ _ (HA.out.below (below_step hB hb2)) (fun _ => ?_)
          exact norm_ (by rfl) (H41 ⟨b1, cap1, b2, A1, c1, w'.heap.size⟩ (w'.alloc (.cells #[.int .u64 0, .int .i64 0] 52)) ⟨(below_step hB hb2), Kd.C_below hrow hb2, hle, heap_alloc_new w' _, hB.size⟩)
      refine join_ (σ := Nat × Nat × Nat × Option Addr × Nat × Nat) 4 #[true, true, true, true, true, true, false, false, true, false, true, false] (fun s_ => [(32, .slice (some ⟨s_.1, 0, none⟩) t.size s_.2.1), (35, .slice (some ⟨s_.2.2.1, 0, none⟩) 1 1), (11, .pointer (some ⟨s_.2.2.2.2.2, 0, none⟩))]) (fun s_ w' => Below wr.heap.size wr w' ∧ Conv w' s_.1 s_.2.1 (strB t) ∧ wr.heap.size ≤ s_.1 ∧ w'.heap[s_.2.2.1]? = some (.cells #[.int .u8 (k : Int)] 5 (0, 0)) ∧ wr.heap.size ≤ s_.2.2.1 ∧ w'.heap[s_.2.2.2.2.2]? = some (.cells #[.int .u64 0, .int .i64 0] 52 (0, 0)) ∧ wr.heap.size ≤ s_.2.2.2.2.2) ?_ (fun H31 => ?_)
      · rintro ⟨b1, cap1, b2, A1, c1, G⟩ w' hF
        dsimp only at hF ⊢
        obtain ⟨hB, hcv, hcb, hbd, hbb, hG, hGg⟩ := hF
        refine norm_ (a' := ?_) ?_ ?_
        rotate_left
        · show putAll _ _ = _
          simp only [putAll, Act.put, List.setIfInBounds_toArray, List.set_cons_zero, List.set_cons_succ, i64_w, i32_w, xu32_w, xu8_w]
          rfl
        refine one_ (i := 6) (N := some 36) #[true, true, true, true, true, true, true, false, true, false, true, false] rfl rfl (one_of HT_.out (by kernel_rfl)) (by decide) (fun K hK => ?_)
        · obtain ⟨An, cn, w2, harun, hCn, hln, hgn⟩ := app_conv' hcv hbd HTS.out
          refine append_step (by rfl) (.tmp 32) (.tmp 35) 59 rfl _ _ rfl rfl (.slice An (t.size + 1) cn) w2 harun ?_
          refine hK.out _ _ (HA.out.below (pw_below_grown hB _ hB.size hgn (fun k hk => by injection hk with hk; omega))) (fun _ => ?_)
          exact norm_ (by rfl) (H41 ⟨b1, cap1, b2, An, cn, G⟩ w2 ⟨(pw_below_grown hB _ hB.size hgn (fun k hk => by injection hk with hk; omega)), hCn, hln, (hgn.block G (blk_lt hG) (fun e => by injection e with e; obtain ⟨cs, fz, e1, _⟩ := hcv.blk; rw [← e, hG] at e1; cases e1)).trans hG, hGg⟩)
      refine join_ (σ := Nat × Nat × Nat × Option Addr × Nat × Nat) 5 #[true, true, true, true, true, true, false, false, true, false, false, false] (fun s_ => [(32, .slice (some ⟨s_.1, 0, none⟩) t.size s_.2.1), (35, .slice (some ⟨s_.2.2.1, 0, none⟩) 1 1)]) (fun s_ w' => Below wr.heap.size wr w' ∧ Conv w' s_.1 s_.2.1 (strB t) ∧ wr.heap.size ≤ s_.1 ∧ w'.heap[s_.2.2.1]? = some (.cells #[.int .u8 (k : Int)] 5 (0, 0)) ∧ wr.heap.size ≤ s_.2.2.1) ?_ (fun H30 => ?_)
      · rintro ⟨b1, cap1, b2, A1, c1, G⟩ w' hF
        dsimp only at hF ⊢
        obtain ⟨hB, hcv, hcb, hbd, hbb⟩ := hF
        refine norm_ (a' := ?_) ?_ ?_
        rotate_left
        · show putAll _ _ = _
          simp only [putAll, Act.put, List.setIfInBounds_toArray, List.set_cons_zero, List.set_cons_succ, i64_w, i32_w, xu32_w, xu8_w]
          rfl
        refine two_ (i := 6) (j := 10) (Ni := some 36) (Nj := some 11) #[true, true, true, true, true, true, true, false, true, false, false, false] #[true, true, true, true, true, true, false, false, true, false, true, false] rfl rfl rfl rfl (two_of HT_.out (by kernel_rfl)) (by decide) (by decide) (fun K hK => ?_) (fun K hK => ?_)
        · obtain ⟨An, cn, w2, harun, hCn, hln, hgn⟩ := app_conv' hcv hbd HTS.out
          refine append_step (by rfl) (.tmp 32) (.tmp 35) 59 rfl _ _ rfl rfl (.slice An (t.size + 1) cn) w2 harun ?_
          refine hK.out _ _ (HA.out.below (pw_below_grown hB _ hB.size hgn (fun k hk => by injection hk with hk; omega))) (fun _ => ?_)
          exact norm_ (by rfl) (H40 ⟨b1, cap1, b2, An, cn, G⟩ w2 ⟨(pw_below_grown hB _ hB.size hgn (fun k hk => by injection hk with hk; omega)), hCn, hln⟩)
        · have hb2 : Below w'.heap.size w' (w'.alloc (.cells #[.int .u64 0, .int .i64 0] 52)) := below_alloc (Below.refl _ _) _
          refine value_ (v := .pointer (some ⟨w'.heap.size, 0, none⟩)) (w1 := w'.alloc (.cells #[.int .u64 0, .int .i64 0] 52)) (by rfl) rfl (by first | (go_simp; done) | (go_simp; rfl)) ?_
          refine hK.out _ _ (HA.out.below (below_step hB hb2)) (fun _ => ?_)
          exact norm_ (by rfl) (H31 ⟨b1, cap1, b2, A1, c1, w'.heap.size⟩ (w'.alloc (.cells #[.int .u64 0, .int .i64 0] 52)) ⟨(below_step hB hb2), hcv.move (hb2.block _ hcv.lt), hcb, (hb2.block _ (blk_lt hbd)).trans hbd, hbb, heap_alloc_new w' _, hB.size⟩)
      refine join_ (σ := Nat × Nat × Nat × Option Addr × Nat × Nat) 5 #[true, true, false, true, true, true, false, false, true, false, true, false] (fun s_ => [(35, .slice (some ⟨s_.2.2.1, 0, none⟩) 1 1), (11, .pointer (some ⟨s_.2.2.2.2.2, 0, none⟩))]) (fun s_ w' => Below wr.heap.size wr w' ∧ w'.heap[s_.2.2.1]? = some (.cells #[.int .u8 (k : Int)] 5 (0, 0)) ∧ wr.heap.size ≤ s_.2.2.1 ∧ w'.heap[s_.2.2.2.2.2]? = some (.cells #[.int .u64 0, .int .i64 0] 52 (0, 0)) ∧ wr.heap.size ≤ s_.2.2.2.2.2) ?_ (fun H21 => ?_)
      · rintro ⟨b1, cap1, b2, A1, c1, G⟩ w' hF
        dsimp only at hF ⊢
        obtain ⟨hB, hbd, hbb, hG, hGg⟩ := hF
        refine norm_ (a' := ?_) ?_ ?_
        rotate_left
        · show putAll _ _ = _
          simp only [putAll, Act.put, List.setIfInBounds_toArray, List.set_cons_zero, List.set_cons_succ, i64_w, i32_w, xu32_w, xu8_w]
          rfl
        refine one_ (i := 2) (N := some 32) #[true, true, true, true, true, true, false, false, true, false, true, false] rfl rfl (one_of HT_.out (by kernel_rfl)) (by decide) (fun K hK => ?_)
        · obtain ⟨capn, w2, hcrun, hcvn, hb2⟩ := conv_str w' t
          refine value_ (v := .slice (some ⟨w'.heap.size, 0, none⟩) t.size capn) (w1 := w2) (by rfl) rfl (by first | (go_simp; done) | (go_simp; rfl)) ?_
          refine hK.out _ _ (HA.out.below (below_step hB hb2)) (fun _ => ?_)
          exact norm_ (by rfl) (H31 ⟨w'.heap.size, capn, b2, A1, c1, G⟩ w2 ⟨(below_step hB hb2), hcvn, hB.size, (hb2.block _ (blk_lt hbd)).trans hbd, hbb, (hb2.block _ (blk_lt hG)).trans hG, hGg⟩)
      refine join_ (σ := Nat × Nat × Nat × Option Addr × Nat × Nat) 6 #[true, true, false, true, true, true, false, false, true, false, false, false] (fun s_ => [(35, .slice (some ⟨s_.2.2.1, 0, none⟩) 1 1)]) (fun s_ w' => Below wr.heap.size wr w' ∧ w'.heap[s_.2.2.1]? = some (.cells #[.int .u8 (k : Int)] 5 (0, 0)) ∧ wr.heap.size ≤ s_.2.2.1) ?_ (fun H20 => ?_)
      · rintro ⟨b1, cap1, b2, A1, c1, G⟩ w' hF
        dsimp only at hF ⊢
        obtain ⟨hB, hbd, hbb⟩ := hF
        refine norm_ (a' := ?_) ?_ ?_
        rotate_left
        · show putAll _ _ = _
          simp only [putAll, Act.put, List.setIfInBounds_toArray, List.set_cons_zero, List.set_cons_succ, i64_w, i32_w, xu32_w, xu8_w]
          rfl
        refine two_ (i := 2) (j := 10) (Ni := some 32) (Nj := some 11) #[true, true, true, true, true, true, false, false, true, false, false, false] #[true, true, false, true, true, true, false, false, true, false, true, false] rfl rfl rfl rfl (two_of HT_.out (by kernel_rfl)) (by decide) (by decide) (fun K hK => ?_) (fun K hK => ?_)
        · obtain ⟨capn, w2, hcrun, hcvn, hb2⟩ := conv_str w' t
          refine value_ (v := .slice (some ⟨w'.heap.size, 0, none⟩) t.size capn) (w1 := w2) (by rfl) rfl (by first | (go_simp; done) | (go_simp; rfl)) ?_
          refine hK.out _ _ (HA.out.below (below_step hB hb2)) (fun _ => ?_)
          exact norm_ (by rfl) (H30 ⟨w'.heap.size, capn, b2, A1, c1, G⟩ w2 ⟨(below_step hB hb2), hcvn, hB.size, (hb2.block _ (blk_lt hbd)).trans hbd, hbb⟩)
        · have hb2 : Below w'.heap.size w' (w'.alloc (.cells #[.int .u64 0, .int .i64 0] 52)) := below_alloc (Below.refl _ _) _
          refine value_ (v := .pointer (some ⟨w'.heap.size, 0, none⟩)) (w1 := w'.alloc (.cells #[.int .u64 0, .int .i64 0] 52)) (by rfl) rfl (by first | (go_simp; done) | (go_simp; rfl)) ?_
          refine hK.out _ _ (HA.out.below (below_step hB hb2)) (fun _ => ?_)
          exact norm_ (by rfl) (H21 ⟨b1, cap1, b2, A1, c1, w'.heap.size⟩ (w'.alloc (.cells #[.int .u64 0, .int .i64 0] 52)) ⟨(below_step hB hb2), (hb2.block _ (blk_lt hbd)).trans hbd, hbb, heap_alloc_new w' _, hB.size⟩)
      refine join_ (σ := Nat × Nat × Nat × Option Addr × Nat × Nat) 5 #[true, true, true, true, true, false, false, false, true, false, true, false] (fun s_ => [(32, .slice (some ⟨s_.1, 0, none⟩) t.size s_.2.1), (11, .pointer (some ⟨s_.2.2.2.2.2, 0, none⟩))]) (fun s_ w' => Below wr.heap.size wr w' ∧ Conv w' s_.1 s_.2.1 (strB t) ∧ wr.heap.size ≤ s_.1 ∧ w'.heap[s_.2.2.2.2.2]? = some (.cells #[.int .u64 0, .int .i64 0] 52 (0, 0)) ∧ wr.heap.size ≤ s_.2.2.2.2.2) ?_ (fun H11 => ?_)
      · rintro ⟨b1, cap1, b2, A1, c1, G⟩ w' hF
        dsimp only at hF ⊢
        obtain ⟨hB, hcv, hcb, hG, hGg⟩ := hF
        refine norm_ (a' := ?_) ?_ ?_
        rotate_left
        · show putAll _ _ = _
          simp only [putAll, Act.put, List.setIfInBounds_toArray, List.set_cons_zero, List.set_cons_succ, i64_w, i32_w, xu32_w, xu8_w]
          rfl
        refine one_ (i := 5) (N := some 35) #[true, true, true, true, true, true, false, false, true, false, true, false] rfl rfl (one_of HT_.out (by kernel_rfl)) (by decide) (fun K hK => ?_)
        · have hb2 : Below w'.heap.size w' (w'.alloc (.cells #[.int .u8 (k : Int)] 5)) := below_alloc (Below.refl _ _) _
          refine value_ (v := .slice (some ⟨w'.heap.size, 0, none⟩) 1 1) (w1 := w'.alloc (.cells #[.int .u8 (k : Int)] 5)) (by rfl) rfl (by first | (go_simp; done) | (go_simp; rfl)) ?_
          refine hK.out _ _ (HA.out.below (below_step hB hb2)) (fun _ => ?_)
          exact norm_ (by rfl) (H31 ⟨b1, cap1, w'.heap.size, A1, c1, G⟩ (w'.alloc (.cells #[.int .u8 (k : Int)] 5)) ⟨(below_step hB hb2), hcv.move (hb2.block _ hcv.lt), hcb, heap_alloc_new w' _, hB.size, (hb2.block _ (blk_lt hG)).trans hG, hGg⟩)
      refine join_ (σ := Nat × Nat × Nat × Option Addr × Nat × Nat) 6 #[true, true, true, true, true, false, false, false, true, false, false, false] (fun s_ => [(32, .slice (some ⟨s_.1, 0, none⟩) t.size s_.2.1)]) (fun s_ w' => Below wr.heap.size wr w' ∧ Conv w' s_.1 s_.2.1 (strB t) ∧ wr.heap.size ≤ s_.1) ?_ (fun H10 => ?_)
      · rintro ⟨b1, cap1, b2, A1, c1, G⟩ w' hF
        dsimp only at hF ⊢
        obtain ⟨hB, hcv, hcb⟩ := hF
        refine norm_ (a' := ?_) ?_ ?_
        rotate_left
        · show putAll _ _ = _
          simp only [putAll, Act.put, List.setIfInBounds_toArray, List.set_cons_zero, List.set_cons_succ, i64_w, i32_w, xu32_w, xu8_w]
          rfl
        refine two_ (i := 5) (j := 10) (Ni := some 35) (Nj := some 11) #[true, true, true, true, true, true, false, false, true, false, false, false] #[true, true, true, true, true, false, false, false, true, false, true, false] rfl rfl rfl rfl (two_of HT_.out (by kernel_rfl)) (by decide) (by decide) (fun K hK => ?_) (fun K hK => ?_)
        · have hb2 : Below w'.heap.size w' (w'.alloc (.cells #[.int .u8 (k : Int)] 5)) := below_alloc (Below.refl _ _) _
          refine value_ (v := .slice (some ⟨w'.heap.size, 0, none⟩) 1 1) (w1 := w'.alloc (.cells #[.int .u8 (k : Int)] 5)) (by rfl) rfl (by first | (go_simp; done) | (go_simp; rfl)) ?_
          refine hK.out _ _ (HA.out.below (below_step hB hb2)) (fun _ => ?_)
          exact norm_ (by rfl) (H30 ⟨b1, cap1, w'.heap.size, A1, c1, G⟩ (w'.alloc (.cells #[.int .u8 (k : Int)] 5)) ⟨(below_step hB hb2), hcv.move (hb2.block _ hcv.lt), hcb, heap_alloc_new w' _, hB.size⟩)
        · have hb2 : Below w'.heap.size w' (w'.alloc (.cells #[.int .u64 0, .int .i64 0] 52)) := below_alloc (Below.refl _ _) _
          refine value_ (v := .pointer (some ⟨w'.heap.size, 0, none⟩)) (w1 := w'.alloc (.cells #[.int .u64 0, .int .i64 0] 52)) (by rfl) rfl (by first | (go_simp; done) | (go_simp; rfl)) ?_
          refine hK.out _ _ (HA.out.below (below_step hB hb2)) (fun _ => ?_)
          exact norm_ (by rfl) (H11 ⟨b1, cap1, b2, A1, c1, w'.heap.size⟩ (w'.alloc (.cells #[.int .u64 0, .int .i64 0] 52)) ⟨(below_step hB hb2), hcv.move (hb2.block _ hcv.lt), hcb, heap_alloc_new w' _, hB.size⟩)
      refine join_ (σ := Nat × Nat × Nat × Option Addr × Nat × Nat) 6 #[true, true, false, true, true, false, false, false, true, false, true, false] (fun s_ => [(11, .pointer (some ⟨s_.2.2.2.2.2, 0, none⟩))]) (fun s_ w' => Below wr.heap.size wr w' ∧ w'.heap[s_.2.2.2.2.2]? = some (.cells #[.int .u64 0, .int .i64 0] 52 (0, 0)) ∧ wr.heap.size ≤ s_.2.2.2.2.2) ?_ (fun H01 => ?_)
      · rintro ⟨b1, cap1, b2, A1, c1, G⟩ w' hF
        dsimp only at hF ⊢
        obtain ⟨hB, hG, hGg⟩ := hF
        refine norm_ (a' := ?_) ?_ ?_
        rotate_left
        · show putAll _ _ = _
          simp only [putAll, Act.put, List.setIfInBounds_toArray, List.set_cons_zero, List.set_cons_succ, i64_w, i32_w, xu32_w, xu8_w]
          rfl
        refine two_ (i := 2) (j := 5) (Ni := some 32) (Nj := some 35) #[true, true, true, true, true, false, false, false, true, false, true, false] #[true, true, false, true, true, true, false, false, true, false, true, false] rfl rfl rfl rfl (two_of HT_.out (by kernel_rfl)) (by decide) (by decide) (fun K hK => ?_) (fun K hK => ?_)
        · obtain ⟨capn, w2, hcrun, hcvn, hb2⟩ := conv_str w' t
          refine value_ (v := .slice (some ⟨w'.heap.size, 0, none⟩) t.size capn) (w1 := w2) (by rfl) rfl (by first | (go_simp; done) | (go_simp; rfl)) ?_
          refine hK.out _ _ (HA.out.below (below_step hB hb2)) (fun _ => ?_)
          exact norm_ (by rfl) (H11 ⟨w'.heap.size, capn, b2, A1, c1, G⟩ w2 ⟨(below_step hB hb2), hcvn, hB.size, (hb2.block _ (blk_lt hG)).trans hG, hGg⟩)
        · have hb2 : Below w'.heap.size w' (w'.alloc (.cells #[.int .u8 (k : Int)] 5)) := below_alloc (Below.refl _ _) _
          refine value_ (v := .slice (some ⟨w'.heap.size, 0, none⟩) 1 1) (w1 := w'.alloc (.cells #[.int .u8 (k : Int)] 5)) (by rfl) rfl (by first | (go_simp; done) | (go_simp; rfl)) ?_
          refine hK.out _ _ (HA.out.below (below_step hB hb2)) (fun _ => ?_)
          exact norm_ (by rfl) (H21 ⟨b1, cap1, w'.heap.size, A1, c1, G⟩ (w'.alloc (.cells #[.int .u8 (k : Int)] 5)) ⟨(below_step hB hb2), heap_alloc_new w' _, hB.size, (hb2.block _ (blk_lt hG)).trans hG, hGg⟩)
      obtain ⟨w', hw'⟩ : ∃ w' : World, w' = wr.drew := ⟨_, rfl⟩
      rw [← hw'] at hB0 ⊢
      clear hw'
      have hB := hB0
      obtain ⟨b1, cap1, b2, A1, c1, G⟩ : Nat × Nat × Nat × Option Addr × Nat × Nat := ⟨0, 0, 0, none, 0, 0⟩
      refine three_ (i := 2) (j := 5) (k := 10) (Ni := some 32) (Nj := some 35) (Nk := some 11) #[true, true, true, true, true, false, false, false, true, false, false, false] #[true, true, false, true, true, true, false, false, true, false, false, false] #[true, true, false, true, true, false, false, false, true, false, true, false] rfl rfl rfl rfl rfl rfl (three_of HT_.out (by kernel_rfl)) (by decide) (by decide) (by decide) (fun K hK => ?_) (fun K hK => ?_) (fun K hK => ?_)
      · obtain ⟨capn, w2, hcrun, hcvn, hb2⟩ := conv_str w' t
        refine value_ (v := .slice (some ⟨w'.heap.size, 0, none⟩) t.size capn) (w1 := w2) (by rfl) rfl (by first | (go_simp; done) | (go_simp; rfl)) ?_
        refine hK.out _ _ (HA.out.below (below_step hB hb2)) (fun _ => ?_)
        exact norm_ (by rfl) (H10 ⟨w'.heap.size, capn, b2, A1, c1, G⟩ w2 ⟨(below_step hB hb2), hcvn, hB.size⟩)
      · have hb2 : Below w'.heap.size w' (w'.alloc (.cells #[.int .u8 (k : Int)] 5)) := below_alloc (Below.refl _ _) _
        refine value_ (v := .slice (some ⟨w'.heap.size, 0, none⟩) 1 1) (w1 := w'.alloc (.cells #[.int .u8 (k : Int)] 5)) (by rfl) rfl (by first | (go_simp; done) | (go_simp; rfl)) ?_
        refine hK.out _ _ (HA.out.below (below_step hB hb2)) (fun _ => ?_)
        exact norm_ (by rfl) (H20 ⟨b1, cap1, w'.heap.size, A1, c1, G⟩ (w'.alloc (.cells #[.int .u8 (k : Int)] 5)) ⟨(below_step hB hb2), heap_alloc_new w' _, hB.size⟩)
      · have hb2 : Below w'.heap.size w' (w'.alloc (.cells #[.int .u64 0, .int .i64 0] 52)) := below_alloc (Below.refl _ _) _
        refine value_ (v := .pointer (some ⟨w'.heap.size, 0, none⟩)) (w1 := w'.alloc (.cells #[.int .u64 0, .int .i64 0] 52)) (by rfl) rfl (by first | (go_simp; done) | (go_simp; rfl)) ?_
        refine hK.out _ _ (HA.out.below (below_step hB hb2)) (fun _ => ?_)
        exact norm_ (by rfl) (H01 ⟨b1, cap1, b2, A1, c1, w'.heap.size⟩ (w'.alloc (.cells #[.int .u64 0, .int .i64 0] 52)) ⟨(below_step hB hb2), heap_alloc_new w' _, hB.size⟩)
    · have hk : k = M := by have := HKK.out; omega
      subst hk
      obtain ⟨A9, c9, hv9⟩ := Kd.R_slice HRO.out
      subst hv9
      have hown := Kd.own_of_R HRO.out
      rw [hv2] at HRO hown ⊢
      rcases hown.2 with ⟨_, hnil⟩ | ⟨b, cap, cur, hv, hbase, hb, d1, d2, d3, d4⟩
      · have := HMM.out; omega
      injection hv with ha _ hcc
      subst ha hcc
      have hgl := blk_lt hb
      rw [Nat.mul_one] at d4
      have hle : (subT sp n t k).1.length = k := hv2
      have hso : Calls Try.prog 31 #[.slice (some ⟨b, 0, none⟩) k c9] wr fun e w' => e = .returned (.tuple #[]) ∧ ∃ m os, w' = Go.Sort.grow (Go.Sort.putRow (Value.int .i64) (Go.Sort.ahead wr m) b 0 ((subT sp n t k).1.mergeSort fun x y => decide (x ≤ y)).toArray) os := by
        have := AnyM.slices_Sort_int Srt.sortI b 0 c9 (subT sp n t k).1 wr (Go.holds_of_blockI hb (by rw [hle]; exact d4)) hgl (by rw [hle]; have := HMM.out; omega)
        rw [hle] at this
        exact this
      have HSO := Aside0.mk hso
      have HO := Aside0.mk (And.intro hbase (And.intro hb (And.intro d1 (And.intro d2 (And.intro d3 hle)))))
      clear hown hbase hb d1 d2 d3 d4 hgl hso hlt hv1 hv2 hle
      go_wp2_with (go_at_call 31; (with_reducible refine HSO.out.mono ?_); rintro e w9 ⟨rfl, m9, os9, h9⟩; have H9 := Aside0.mk h9; clear h9)
      go_ret2
      obtain ⟨hbase, hb, d1, d2, d3, hle⟩ := HO.out
      have hbF : F < b := HRO.out.1 b rfl
      have hF := HFZ.out
      have h9 := H9.out
      have hsf : subF sp n t size = (subT sp n t k).1.mergeSort (fun x y => decide (x ≤ y)) := by
        unfold subF
        rw [HM.out, Int.toNat_natCast]
      have hml : ((subT sp n t k).1.mergeSort (fun x y => decide (x ≤ y))).length = (subT sp n t k).1.length := List.length_mergeSort _
      have hgr : wr.grownBy w9 (some b) := by rw [h9]; exact Go.grownBy_sortedI _
      have hown : w9.ownsRow w.heap.size 3 1 (.slice (some ⟨b, 0, none⟩) k c9) k (((subT sp n t k).1.mergeSort (fun x y => decide (x ≤ y))).map (Value.int .i64)) := by
        rw [h9]
        have := Go.ownsRow_sortedI (w := wr) (base := w.heap.size) (g := b) (cap := c9) (n := m9) (e := 3) (os := os9) (cur := cur) (ss := (subT sp n t k).1) (ts := (subT sp n t k).1.mergeSort (fun x y => decide (x ≤ y))) hml hbase hb (by rw [hle]; exact d1) d2 d3
        rw [hle] at this
        exact this
      refine ⟨_, rfl, ?_, pw_below_grown HB.out _ HB.out.size hgr (fun q hq => by injection hq with hq; omega)⟩
      rw [hsf]
      refine Kd.R_of_own ?_ (fun q hq => ?_)
      · rw [hml, hle]
        exact hown
      · have : b = q := by simpa [Value.ownBlock] using hq
        omega
end Go.Proofs.Ytibilnohnildcaa.R
