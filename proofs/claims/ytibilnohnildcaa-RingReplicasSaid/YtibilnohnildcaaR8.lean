/- The ring by hand: first. -/
import Derived.Test.YtibilnohnildcaaR7
namespace Go.Proofs.Ytibilnohnildcaa.R
open Go.RowKit Go.Proofs.Ytibilnohnildcaa.Q Go.Proofs.YtibilnohnildcaaW.PrintWords Go.Proofs.YtibilnohnildcaaW.PrintLast Go.Proofs.YtibilnohnildcaaW.PrintMore
set_option linter.unusedVariables false
set_option linter.unusedSimpArgs false
def first.T7 : Bool × List (List Nat × List Nat) := (true, [([], []), ([0], [0]), ([1], [1]), ([2], [2]), ([], []), ([], []), ([4, 5], [4, 5]), ([], []), ([7], [7]), ([8], [8]), ([9], [9]), ([10], [10]), ([6, 11], [6, 11]), ([3, 12], [3, 12]), ([13], [13]), ([], []), ([15, 14, 0, 1, 2, 3, 4, 5, 6, 7, 8, 9, 10, 11, 12, 13, 14, 15], [14, 15])])
def first.B7 : List Nat := [0, 1, 3, 7, 0, 0, 48, 0, 128, 384, 896, 1920, 4080, 8191, 16383, 0, 65535]
theorem first.tab7 : rtab .any (opsOf Try.f29 7) = first.T7 := by kernel_rfl
theorem first.bits7 : waitsOk first.T7.2 first.B7 = true := by kernel_rfl
/-- Where the round of a place begins. -/
def fromT (sp : List S52) (p : Int) : Nat := (sp.takeWhile (fun s => decide (s.f0 < p))).length
/-- The spots from a place on, once round. -/
def roundT (sp : List S52) (p : Int) : List S52 := sp.drop (fromT sp p) ++ sp.take (fromT sp p)
/-- The first spot from a place on of a node that is wanted. -/
def firstT (sp : List S52) (p : Int) (L : List Bool) : S52 := ((roundT sp p).find? (fun s => L.getD s.f1.toNat false)).getD ⟨0, -1⟩
theorem from_le (sp : List S52) (p : Int) : fromT sp p ≤ sp.length := (List.takeWhile_sublist _).length_le
theorem from_of {sp : List S52} {p : Int} {i : Nat} (hi : i ≤ sp.length) (h : ∀ j (hj : j < sp.length), j < i → sp[j].f0 < p) (hn : ∀ hj : i < sp.length, ¬ sp[i].f0 < p) : fromT sp p = i := by
  induction sp generalizing i with
  | nil => simp at hi; simp [fromT, hi]
  | cons s r ih =>
    unfold fromT
    rw [List.takeWhile_cons]
    cases i with
    | zero =>
      have := hn (by simp)
      simp only [List.getElem_cons_zero] at this
      rw [if_neg (by simpa using this)]
      rfl
    | succ i =>
      have h0 := h 0 (by simp) (by omega)
      simp only [List.getElem_cons_zero] at h0
      rw [if_pos (by simpa using h0), List.length_cons]
      have := ih (i := i) (by simpa using hi) (fun j hj hlt => by have := h (j + 1) (by simpa using hj) (by omega); simpa using this) (fun hj => by have := hn (by simpa using hj); simpa using this)
      unfold fromT at this
      omega
theorem round_len (sp : List S52) (p : Int) : (roundT sp p).length = sp.length := by
  unfold roundT
  have := from_le sp p
  rw [List.length_append, List.length_drop, List.length_take]
  omega
theorem round_at {sp : List S52} {p : Int} {i : Nat} (hi : i < sp.length) : (roundT sp p)[i]? = some (rd_T52 sp (((fromT sp p + i) % sp.length : Nat) : Int)) := by
  have hf := from_le sp p
  unfold roundT rd_T52
  rw [Int.toNat_natCast, List.getD_eq_getElem?_getD]
  have hl : (sp.drop (fromT sp p)).length = sp.length - fromT sp p := List.length_drop
  by_cases h : fromT sp p + i < sp.length
  · rw [List.getElem?_append_left (by omega), List.getElem?_drop, Nat.mod_eq_of_lt h, List.getElem?_eq_getElem h]
    rfl
  · have e : (fromT sp p + i) % sp.length = fromT sp p + i - sp.length := by
      rw [Nat.mod_eq_sub_mod (by omega), Nat.mod_eq_of_lt (by omega)]
    rw [List.getElem?_append_right (by omega), e, List.getElem?_take, if_pos (by omega), show i - (sp.drop (fromT sp p)).length = fromT sp p + i - sp.length by omega, List.getElem?_eq_getElem (by omega)]
    rfl
theorem find_none {l : List S52} {q : S52 → Bool} {i : Nat} (h : ∀ j s, j < i → l[j]? = some s → q s = false) (hi : l.length ≤ i) : l.find? q = none := by
  rw [List.find?_eq_none]
  intro x hx
  obtain ⟨j, hj⟩ := List.getElem?_of_mem hx
  have := h j x (by have := (List.getElem?_eq_some_iff.1 hj).1; omega) hj
  simp [this]
theorem find_at {l : List S52} {q : S52 → Bool} {i : Nat} {s : S52} (h : ∀ j s, j < i → l[j]? = some s → q s = false) (hi : l[i]? = some s) (hq : q s = true) : l.find? q = some s := by
  induction l generalizing i with
  | nil => simp at hi
  | cons x r ih =>
    cases i with
    | zero =>
      have : x = s := by simpa using hi
      subst this
      rw [List.find?_cons_of_pos hq]
    | succ i =>
      have := h 0 x (by omega) rfl
      rw [List.find?_cons_of_neg (by simp [this])]
      exact ih (i := i) (fun j s hj hs => h (j + 1) s (by omega) (by simpa using hs)) (by simpa using hi)
theorem load52 {w : World} {R : Nat} {a b : Value} (h : w.heap[R]? = some (.cells #[a, b] 52 (0, 0))) : (loadVar 52 ⟨R, 0, none⟩).run Try.prog w = .ok (.agg #[a, b]) w :=
  run_loadVar_mid w R 0 52 [a, b] _ (fun j v hv => by
    rw [Nat.zero_add, blk_cell h j]
    simpa using hv) Try.underlying52 rfl (by kernel_rfl)
theorem cells52 {w : World} {R : Nat} {a b : Value} (h : w.heap[R]? = some (.cells #[a, b] 52 (0, 0))) : w.cell? ⟨R, 0, none⟩ = some a ∧ w.cell? ⟨R, 1, none⟩ = some b ∧ w.frozen? ⟨R, 0, none⟩ = false ∧ w.frozen? ⟨R, 1, none⟩ = false :=
  ⟨(blk_cell h 0).trans rfl, (blk_cell h 1).trans rfl, blk_frozen h 0, blk_frozen h 1⟩
set_option maxHeartbeats 2000000 in
set_option maxRecDepth 100000 in
theorem first_calls {w : World} {g n : Nat} {sp : List S52} (h : RingG w g n sp) (p : Int) (L : List Bool) (hL : L.length = 16) (hin : ∀ s ∈ sp, 0 ≤ s.f1 ∧ s.f1 < 16) : Calls Try.prog 29 #[.pointer (some ⟨g, 0, none⟩), .int .u64 p, .agg (L.map Value.bool).toArray] w fun e w' => e = .returned (.agg #[.int .u64 (firstT sp p L).f0, .int .i64 (firstT sp p L).f1]) ∧ Below w.heap.size w w' := by
  obtain ⟨A, c, h1, h2, h3⟩ := h.ex
  have hbx := box_arr L hL
  have hfew := h.few
  obtain ⟨m, hm⟩ : ∃ m : Nat, m = sp.length := ⟨_, rfl⟩
  have HL := Aside0.mk hL
  have HIN := Aside0.mk hin
  have HM := Aside0.mk hm
  rw [← hm] at h1 h2 h3 hfew
  have HFW := Aside0.mk hfew
  have HG := Aside0.mk (And.intro h1 h2)
  clear h h1 h2 hL hin hm hfew
  go_enter Try.func29, Try.ntmps29
  go_wp2
  clear hbx
  obtain ⟨wx, hwx⟩ : ∃ wx : World, wx = (w.alloc (.cells (L.map Value.bool).toArray 55)).alloc (.cells #[.int .u64 0, .int .i64 0] 52) := ⟨_, rfl⟩
  rw [← hwx]
  have hz : (w.alloc (.cells (L.map Value.bool).toArray 55)).heap.size = w.heap.size + 1 := by simp
  have HX : Aside0 (Arr wx w.heap.size L ∧ wx.heap[w.heap.size + 1]? = some (.cells #[.int .u64 0, .int .i64 0] 52 (0, 0)) ∧ Below w.heap.size w wx) := ⟨by
    rw [hwx]
    refine ⟨(arr_of (heap_alloc_new w (.cells (L.map Value.bool).toArray 55)) rfl HL.out).below (below_alloc (Below.refl _ _) _), ?_, below_alloc (below_alloc (Below.refl _ _) _) _⟩
    rw [← hz]
    exact heap_alloc_new _ _⟩
  clear hwx hz
  have g1 : wx.cell? ⟨g, 1, none⟩ = some (.slice A m c) := (blk_cell ((HX.out.2.2.block g (blk_lt HG.out.1)).trans HG.out.1) 1).trans rfl
  have G1 := Aside0.mk g1
  clear g1
  go_loopg [7] (m + 1) (fun kq v7 wr => ∃ (i : Nat), v7 = .int .i64 i ∧ Aside0 (kq + i = m + 1 ∧ i ≤ m) ∧ Aside0 (∀ j (hj : j < sp.length), j < i → sp[j].f0 < p) ∧ Aside0 (wr = wx))
  case atStart => exact ⟨0, rfl, ⟨by omega⟩, ⟨fun j _ hj => absurd hj (Nat.not_lt_zero _)⟩, ⟨rfl⟩⟩
  case round =>
    obtain ⟨i, rfl, HI, HA, ⟨rfl⟩⟩ := hrel
    have g1 := G1.out
    cases gk with
    | zero => have := HI.out; omega
    | succ k1 =>
    have hgo : (i < m ∧ rd_T52 sp (i : Int) = rd_T52 sp (i : Int) ∧ (rd_T52 sp (i : Int)).f0 < p) ∨ fromT sp p = i := by
      have hil := HM.out
      by_cases hlt : i < m
      · have hrd : rd_T52 sp (i : Int) = sp[i] := by
          unfold rd_T52
          rw [Int.toNat_natCast, List.getD_eq_getElem?_getD, List.getElem?_eq_getElem (by omega)]; rfl
        by_cases hp : (rd_T52 sp (i : Int)).f0 < p
        · exact .inl ⟨hlt, rfl, hp⟩
        · exact .inr (from_of (by omega) HA.out (fun hj => by rw [← hrd]; exact hp))
      · exact .inr (from_of (by have := HI.out; omega) HA.out (fun hj => by omega))
    by_cases hlt : i < m
    · have hi0 : (0 : Int) ≤ (i : Int) := by omega
      have hi1 : (i : Int) < (m : Int) := by omega
      obtain ⟨ad, hA, x0, x1⟩ := at_T52 (Kd.C_below HG.out.2 HX.out.2.2) (i : Int) hi0 hi1
      simp only [Int.toNat_natCast] at x0 x1
      by_cases hp : (rd_T52 sp (i : Int)).f0 < p
      · have HP := Aside0.mk hp
        subst hA
        clear hgo
        go_wp2_with (fail)
        go_roundg k1
        case measure => omega
        case rel => exact ⟨i + 1, by first | rfl | (simp; done) | (rw [wrap_id (n := (i : Int) + 1) (by omega) (by have := HFW.out; omega)]; first | rfl | (simp; done)), ⟨by have := HI.out; omega⟩, ⟨fun j hj hlt2 => by
          rcases Nat.lt_or_ge j i with h | h
          · exact HA.out j hj h
          · have : j = i := by omega
            subst this
            have hp := HP.out
            unfold rd_T52 at hp
            rw [Int.toNat_natCast, List.getD_eq_getElem?_getD, List.getElem?_eq_getElem hj] at hp
            exact hp⟩, ⟨rfl⟩⟩
      · have hfr : fromT sp p = i := hgo.resolve_left (fun h => hp h.2.2)
        have HFR := Aside0.mk (And.intro hfr (show i ≤ m from by omega))
        subst hA
        clear hgo hfr
        go_wp2_with (fail)
        clear x0 x1 hp hi0 hi1 hlt
        have HAE := Aside0.mk trivial
        go_loopg [36] (m + 1) (fun kq v36 wr => ∃ (j : Nat), v36 = .int .i64 j ∧ Aside0 (kq + j = m + 1 ∧ j ≤ m) ∧ Aside0 (∀ (t : Nat) (s : S52), t < j → (roundT sp p)[t]? = some s → L.getD s.f1.toNat false = false) ∧ Aside0 (Arr wr w.heap.size L) ∧ Aside0 (wr.heap[w.heap.size + 1]? = some (.cells #[.int .u64 0, .int .i64 0] 52 (0, 0))) ∧ Aside0 (Below w.heap.size w wr))
        case atStart => exact ⟨0, rfl, ⟨by omega⟩, ⟨fun t s ht => absurd ht (Nat.not_lt_zero _)⟩, ⟨HX.out.1⟩, ⟨HX.out.2.1⟩, ⟨HX.out.2.2⟩⟩
        case round =>
          obtain ⟨j, rfl, HJ, HN, HA2, HZ, HB⟩ := hrel
          clear HX G1
          cases gk with
          | zero => have := HJ.out; omega
          | succ k2 =>
          by_cases hlt : j < m
          · have hj0 : (0 : Int) ≤ (j : Int) := by omega
            have hj1 : (j : Int) < (m : Int) := by omega
            obtain ⟨q, hq⟩ : ∃ q : Nat, q = (i + j) % m := ⟨_, rfl⟩
            have hqm : q < m := by rw [hq]; exact Nat.mod_lt _ (by omega)
            have hidx : Int.tmod (wrap64 ((i : Int) + (j : Int))) (m : Int) = (q : Int) := by
              rw [wrap_id (by omega) (by have := HFW.out; have := HFR.out.2; omega), hq]
              have : ((i : Int) + (j : Int)) = ((i + j : Nat) : Int) := by omega
              rw [this]
              rfl
            have hq0 : (0 : Int) ≤ (q : Int) := by omega
            have hq1 : (q : Int) < (m : Int) := by omega
            have hm0 : ¬ (m : Int) = 0 := by omega
            have hmn : ¬ m = 0 := by omega
            obtain ⟨ae, hAe, x0, x1⟩ := at_T52 (Kd.C_below HG.out.2 HB.out) (q : Int) hq0 hq1
            simp only [Int.toNat_natCast] at x0 x1
            have hra : (roundT sp p)[j]? = some (rd_T52 sp (q : Int)) := by
              rw [round_at (by have := HM.out; omega), HFR.out.1, hq, HM.out]
            have hmem : rd_T52 sp (q : Int) ∈ sp := by
              unfold rd_T52
              rw [Int.toNat_natCast, List.getD_eq_getElem?_getD, List.getElem?_eq_getElem (by have := HM.out; omega)]
              exact List.getElem_mem _
            have HSB := Aside0.mk (HIN.out _ hmem)
            have HRA := Aside0.mk hra
            generalize rd_T52 sp (q : Int) = s at *
            have g1 : wr.cell? ⟨g, 1, none⟩ = some (.slice (some ad) m c) := (blk_cell ((HB.out.block g (blk_lt HG.out.1)).trans HG.out.1) 1).trans rfl
            injection hAe with hAe; subst hAe
            clear hra hmem hq hqm
            go_wp2_with (fail)
            refine start_ (n := 17) (S := fun w' => w'.cell? ⟨g, 1, none⟩ = some (.slice (some ad) m c) ∧ w'.cell? (ad.add (q * 2)) = some (.int .u64 s.f0) ∧ w'.cell? ⟨(ad.add (q * 2)).block, (ad.add (q * 2)).off + 1, none⟩ = some (.int .i64 s.f1)) (ds := []) #[false, false, false, false, false, false, false, false, false, false, false, false, false, false, false, false, false] (by kernel_rfl) rfl rfl ⟨g1, x0, x1⟩ (fun hHeld => ?_); refine with_tabW first.tab7 first.bits7 (fun HT_ HW_ => ?_)
            refine pure_ (i := 0) (N := some 39) (v := ?_) (a' := ?_) #[true, false, false, false, false, false, false, false, false, false, false, false, false, false, false, false, false] rfl rfl (any_of HT_.out (by kernel_rfl)) (fun _ _ _ h => h) (Or.inl ⟨by rfl, ?_⟩) ?_ ?_
            rotate_left
            · intro w'
              go_simp
              with_reducible rfl
            rotate_left
            · simp only [Act.put, List.setIfInBounds_toArray, List.set_cons_zero, List.set_cons_succ, i64_w, i32_w, xu32_w, xu8_w]
              rfl
            refine pure_ (i := 1) (N := some 40) (v := ?_) (a' := ?_) #[true, true, false, false, false, false, false, false, false, false, false, false, false, false, false, false, false] rfl rfl (any_of HT_.out (by kernel_rfl)) (fun _ _ _ h => h) (Or.inl ⟨by rfl, ?_⟩) ?_ ?_
            rotate_left
            · intro w'
              go_simp
              with_reducible rfl
            rotate_left
            · simp only [Act.put, List.setIfInBounds_toArray, List.set_cons_zero, List.set_cons_succ, i64_w, i32_w, xu32_w, xu8_w]
              rfl
            refine pure_ (i := 2) (N := some 41) (v := ?_) (a' := ?_) #[true, true, true, false, false, false, false, false, false, false, false, false, false, false, false, false, false] rfl rfl (any_of HT_.out (by kernel_rfl)) (fun _ _ _ h => h) (Or.inl ⟨by rfl, ?_⟩) ?_ ?_
            rotate_left
            · intro w'
              go_simp
              with_reducible rfl
            rotate_left
            · simp only [Act.put, List.setIfInBounds_toArray, List.set_cons_zero, List.set_cons_succ, i64_w, i32_w, xu32_w, xu8_w]
              rfl
            refine pure_ (i := 4) (N := some 43) (v := ?_) (a' := ?_) #[true, true, true, false, true, false, false, false, false, false, false, false, false, false, false, false, false] rfl rfl (any_of HT_.out (by kernel_rfl)) (fun _ _ _ h => h) (Or.inl ⟨by rfl, ?_⟩) ?_ ?_
            rotate_left
            · intro w'
              go_simp
              with_reducible rfl
            rotate_left
            · simp only [Act.put, List.setIfInBounds_toArray, List.set_cons_zero, List.set_cons_succ, i64_w, i32_w, xu32_w, xu8_w]
              rfl
            refine pure_ (i := 5) (N := some 44) (v := ?_) (a' := ?_) #[true, true, true, false, true, true, false, false, false, false, false, false, false, false, false, false, false] rfl rfl (any_of HT_.out (by kernel_rfl)) (fun _ _ _ h => h) (Or.inl ⟨by rfl, ?_⟩) ?_ ?_
            rotate_left
            · intro w'
              go_simp
              with_reducible rfl
            rotate_left
            · simp only [Act.put, List.setIfInBounds_toArray, List.set_cons_zero, List.set_cons_succ, i64_w, i32_w, xu32_w, xu8_w]
              rfl
            refine pure_ (i := 6) (N := some 45) (v := ?_) (a' := ?_) #[true, true, true, false, true, true, true, false, false, false, false, false, false, false, false, false, false] rfl rfl (any_of HT_.out (by kernel_rfl)) (fun _ _ _ h => h) (Or.inl ⟨by rfl, ?_⟩) ?_ ?_
            rotate_left
            · intro w'
              go_simp
              with_reducible rfl
            rotate_left
            · simp only [Act.put, List.setIfInBounds_toArray, List.set_cons_zero, List.set_cons_succ, i64_w, i32_w, xu32_w, xu8_w]
              rfl
            refine pure_ (i := 7) (N := some 46) (v := ?_) (a' := ?_) #[true, true, true, false, true, true, true, true, false, false, false, false, false, false, false, false, false] rfl rfl (any_of HT_.out (by kernel_rfl)) (fun _ _ _ h => h) (Or.inl ⟨by rfl, ?_⟩) ?_ ?_
            rotate_left
            · intro w'
              go_simp
              with_reducible rfl
            rotate_left
            · simp only [Act.put, List.setIfInBounds_toArray, List.set_cons_zero, List.set_cons_succ, i64_w, i32_w, xu32_w, xu8_w]
              rfl
            refine pure_ (i := 8) (N := some 47) (v := ?_) (a' := ?_) #[true, true, true, false, true, true, true, true, true, false, false, false, false, false, false, false, false] rfl rfl (any_of HT_.out (by kernel_rfl)) (fun _ _ _ h => h) (Or.inl ⟨by rfl, ?_⟩) ?_ ?_
            rotate_left
            · intro w'
              go_simp
              with_reducible rfl
            rotate_left
            · simp only [Act.put, List.setIfInBounds_toArray, List.set_cons_zero, List.set_cons_succ, i64_w, i32_w, xu32_w, xu8_w]
              rfl
            refine pure_ (i := 9) (N := some 48) (v := ?_) (a' := ?_) #[true, true, true, false, true, true, true, true, true, true, false, false, false, false, false, false, false] rfl rfl (any_of HT_.out (by kernel_rfl)) (fun _ _ _ h => h) (Or.inl ⟨by rfl, ?_⟩) ?_ ?_
            rotate_left
            · intro w'
              go_simp
              with_reducible rfl
            rotate_left
            · simp only [Act.put, List.setIfInBounds_toArray, List.set_cons_zero, List.set_cons_succ, i64_w, i32_w, xu32_w, xu8_w]
              rfl
            refine take_ (i := 3) (N := some 42) (v := ?_) (a' := ?_) #[true, true, true, true, true, true, true, true, true, true, false, false, false, false, false, false, false] rfl rfl (take_ofW HT_.out HW_.out (by kernel_rfl)) (fun _ _ _ h => h) (Or.inl ⟨by rfl, ?_⟩) hHeld ?_ ?_
            rotate_left
            · rintro w' ⟨s0, s1, s2⟩
              go_simp
              with_reducible rfl
            rotate_left
            · simp only [Act.put, List.setIfInBounds_toArray, List.set_cons_zero, List.set_cons_succ, i64_w, i32_w, xu32_w, xu8_w]
              rfl
            refine take_ (i := 10) (N := some 49) (v := ?_) (a' := ?_) #[true, true, true, true, true, true, true, true, true, true, true, false, false, false, false, false, false] rfl rfl (take_ofW HT_.out HW_.out (by kernel_rfl)) (fun _ _ _ h => h) (Or.inl ⟨by rfl, ?_⟩) hHeld ?_ ?_
            rotate_left
            · rintro w' ⟨s0, s1, s2⟩
              go_simp
              with_reducible rfl
            rotate_left
            · simp only [Act.put, List.setIfInBounds_toArray, List.set_cons_zero, List.set_cons_succ, i64_w, i32_w, xu32_w, xu8_w]
              rfl
            refine pure_ (i := 11) (N := some 50) (v := ?_) (a' := ?_) #[true, true, true, true, true, true, true, true, true, true, true, true, false, false, false, false, false] rfl rfl (any_of HT_.out (by kernel_rfl)) (fun _ _ _ h => h) (Or.inl ⟨by rfl, ?_⟩) ?_ ?_
            rotate_left
            · intro w'
              go_simp
              with_reducible rfl
            rotate_left
            · simp only [Act.put, List.setIfInBounds_toArray, List.set_cons_zero, List.set_cons_succ, i64_w, i32_w, xu32_w, xu8_w]
              rfl
            refine pure_ (i := 12) (N := some 51) (v := ?_) (a' := ?_) #[true, true, true, true, true, true, true, true, true, true, true, true, true, false, false, false, false] rfl rfl (any_of HT_.out (by kernel_rfl)) (fun _ _ _ h => h) (Or.inl ⟨by rfl, ?_⟩) ?_ ?_
            rotate_left
            · intro w'
              go_simp
              with_reducible rfl
            rotate_left
            · simp only [Act.put, List.setIfInBounds_toArray, List.set_cons_zero, List.set_cons_succ, i64_w, i32_w, xu32_w, xu8_w]
              rfl
            refine pure_ (i := 13) (N := some 52) (v := ?_) (a' := ?_) #[true, true, true, true, true, true, true, true, true, true, true, true, true, true, false, false, false] rfl rfl (any_of HT_.out (by kernel_rfl)) (fun _ _ _ h => h) (Or.inl ⟨by rfl, ?_⟩) ?_ ?_
            rotate_left
            · intro w'
              go_simp
              with_reducible rfl
            rotate_left
            · simp only [Act.put, List.setIfInBounds_toArray, List.set_cons_zero, List.set_cons_succ, i64_w, i32_w, xu32_w, xu8_w]
              rfl
            refine take_ (i := 14) (N := some 53) (v := ?_) (a' := ?_) #[true, true, true, true, true, true, true, true, true, true, true, true, true, true, true, false, false] rfl rfl (take_ofW HT_.out HW_.out (by kernel_rfl)) (fun _ _ _ h => h) (Or.inl ⟨by rfl, ?_⟩) hHeld ?_ ?_
            rotate_left
            · rintro w' ⟨s0, s1, s2⟩
              go_simp
              with_reducible rfl
            rotate_left
            · simp only [Act.put, List.setIfInBounds_toArray, List.set_cons_zero, List.set_cons_succ, i64_w, i32_w, xu32_w, xu8_w]
              rfl
            refine one_ (i := 15) (N := some 9) #[true, true, true, true, true, true, true, true, true, true, true, true, true, true, true, true, false] rfl rfl (one_of HT_.out (by kernel_rfl)) (by decide) (fun K hK => ?_)
            refine value_ (v := .pointer (some ⟨wr.drew.heap.size, 0, none⟩)) (w1 := wr.drew.alloc (.cells #[.int .u64 0, .int .i64 0] 52)) (by rfl) rfl (by first | (go_simp; done) | (go_simp; rfl)) ?_
            refine hK.out _ _ ⟨pw_cell_below (below_alloc (below_drew (Below.refl _ _)) _) g1, pw_cell_below (below_alloc (below_drew (Below.refl _ _)) _) x0, pw_cell_below (below_alloc (below_drew (Below.refl _ _)) _) x1⟩ (fun hHeld => ?_)
            clear hK K
            refine norm_ (a' := ?_) ?_ ?_
            rotate_left
            · show Act.put _ (some 9) _ = _
              simp only [Act.put, List.setIfInBounds_toArray, List.set_cons_zero, List.set_cons_succ, i64_w, i32_w, xu32_w, xu8_w]
              rfl
            refine one_ (i := 16) (N := none) #[true, true, true, true, true, true, true, true, true, true, true, true, true, true, true, true, true] rfl rfl (one_of HT_.out (by kernel_rfl)) (by decide) (fun K hK => ?_)
            obtain ⟨w6, hw6⟩ : ∃ w6 : World, w6 = wr.drew.alloc (.cells #[.int .u64 s.f0, .int .i64 s.f1] 52) := ⟨_, rfl⟩
            have HW6 : Aside0 (Below wr.heap.size wr w6) := ⟨by rw [hw6]; exact below_alloc (below_drew (Below.refl _ _)) _⟩
            have HG6 : Aside0 (w6.heap[wr.heap.size]? = some (.cells #[.int .u64 s.f0, .int .i64 s.f1] 52 (0, 0))) := ⟨by rw [hw6]; exact heap_alloc_new wr.drew _⟩
            refine skip_ (w1 := w6) (by rfl) rfl (by rw [hw6]; first | (go_simp; done) | (go_simp; rfl)) ?_
            refine hK.out _ _ ⟨pw_cell_below HW6.out g1, pw_cell_below HW6.out x0, pw_cell_below HW6.out x1⟩ (fun hHeld => ?_)
            clear hK K hw6
            refine done_ (done_of HT_.out (by kernel_rfl)) ?_
            clear hHeld HT_ HW_ x0 x1
            have hs0 := HSB.out.1
            have hs1 := HSB.out.2
            have HBW : Aside0 (Below wr.heap.size wr w6) := HW6
            have HA6 := Aside0.mk (HA2.out.below HW6.out)
            have hcn := HA6.out.cell (i := s.f1.toNat) (by omega)
            have HZ6 := Aside0.mk ((HW6.out.block _ (blk_lt HZ.out)).trans HZ.out)
            have HB6 := Aside0.mk (below_step HB.out HW6.out)
            obtain ⟨z0, z1, z2, z3⟩ := cells52 HZ6.out
            obtain ⟨t0, t1, t2, t3⟩ := cells52 HG6.out
            obtain ⟨b, hb⟩ : ∃ b : Bool, b = L.getD s.f1.toNat false := ⟨_, rfl⟩
            rw [← hb] at hcn
            have HBB := Aside0.mk hb
            clear hb
            cases b
            · go_wp2_with (fail)
              go_roundg k2
              case measure => omega
              case rel => exact ⟨j + 1, by first | rfl | (simp; done) | (rw [wrap_id (n := (j : Int) + 1) (by omega) (by have := HFW.out; omega)]; first | rfl | (simp; done)), ⟨by have := HJ.out; omega⟩, ⟨fun t s' ht hs' => by
                rcases Nat.lt_or_ge t j with h | h
                · exact HN.out t s' h hs'
                · have : t = j := by omega
                  subst this
                  rw [HRA.out] at hs'
                  cases hs'
                  exact HBB.out.symm⟩, HA6, HZ6, HB6⟩
            · have hfi : firstT sp p L = s := by
                unfold firstT
                rw [find_at HN.out HRA.out HBB.out.symm]
                rfl
              have HFI := Aside0.mk hfi
              clear hfi
              have HLD := Aside0.mk (load52 (blk_put (blk_put HZ6.out 0 (.int .u64 s.f0) rfl) 1 (.int .i64 s.f1) rfl))
              go_wp2_with (fail)
              ((try simp only [Exit.inBlock, Exit.then]); refine bodyPost_ret (results_c1 rfl _ _ (w.heap.size + 1) _ rfl HLD.out) rfl ?_)
              exact ⟨by rw [HFI.out], below_set (below_set HB6.out (by omega)) (by omega)⟩
          · have hj : j = m := by have := HJ.out; omega
            subst hj
            have hfi : firstT sp p L = ⟨0, -1⟩ := by
              unfold firstT
              rw [find_none HN.out (by rw [round_len, ← HM.out]; exact Nat.le_refl _)]
              rfl
            have HFI := Aside0.mk hfi
            obtain ⟨z0, z1, z2, z3⟩ := cells52 HZ.out
            have HLD := Aside0.mk (load52 (blk_put (blk_put HZ.out 0 (.int .u64 0) rfl) 1 (.int .i64 (-1)) rfl))
            clear hfi hlt
            go_wp2_with (fail)
            ((try simp only [Exit.inBlock, Exit.then]); refine bodyPost_ret (results_c1 rfl _ _ (w.heap.size + 1) _ rfl HLD.out) rfl ?_)
            exact ⟨by rw [HFI.out], below_set (below_set HB.out (by omega)) (by omega)⟩
    · have hfr : fromT sp p = i := hgo.resolve_left (fun h => hlt h.1)
      have HFR := Aside0.mk (And.intro hfr (show i ≤ m from HI.out.2))
      have hlt2 : ¬ (i : Int) < (m : Int) := by omega
      clear hgo hfr hlt
      go_wp2_with (fail)
      clear hlt2
      go_loopg [36] (m + 1) (fun kq v36 wr => ∃ (j : Nat), v36 = .int .i64 j ∧ Aside0 (kq + j = m + 1 ∧ j ≤ m) ∧ Aside0 (∀ (t : Nat) (s : S52), t < j → (roundT sp p)[t]? = some s → L.getD s.f1.toNat false = false) ∧ Aside0 (Arr wr w.heap.size L) ∧ Aside0 (wr.heap[w.heap.size + 1]? = some (.cells #[.int .u64 0, .int .i64 0] 52 (0, 0))) ∧ Aside0 (Below w.heap.size w wr))
      case atStart => exact ⟨0, rfl, ⟨by omega⟩, ⟨fun t s ht => absurd ht (Nat.not_lt_zero _)⟩, ⟨HX.out.1⟩, ⟨HX.out.2.1⟩, ⟨HX.out.2.2⟩⟩
      case round =>
        obtain ⟨j, rfl, HJ, HN, HA2, HZ, HB⟩ := hrel
        clear HX G1
        cases gk with
        | zero => have := HJ.out; omega
        | succ k2 =>
        by_cases hlt : j < m
        · have hj0 : (0 : Int) ≤ (j : Int) := by omega
          have hj1 : (j : Int) < (m : Int) := by omega
          obtain ⟨q, hq⟩ : ∃ q : Nat, q = (i + j) % m := ⟨_, rfl⟩
          have hqm : q < m := by rw [hq]; exact Nat.mod_lt _ (by omega)
          have hidx : Int.tmod (wrap64 ((i : Int) + (j : Int))) (m : Int) = (q : Int) := by
            rw [wrap_id (by omega) (by have := HFW.out; have := HFR.out.2; omega), hq]
            have : ((i : Int) + (j : Int)) = ((i + j : Nat) : Int) := by omega
            rw [this]
            rfl
          have hq0 : (0 : Int) ≤ (q : Int) := by omega
          have hq1 : (q : Int) < (m : Int) := by omega
          have hm0 : ¬ (m : Int) = 0 := by omega
          have hmn : ¬ m = 0 := by omega
          obtain ⟨ae, hAe, x0, x1⟩ := at_T52 (Kd.C_below HG.out.2 HB.out) (q : Int) hq0 hq1
          simp only [Int.toNat_natCast] at x0 x1
          have hra : (roundT sp p)[j]? = some (rd_T52 sp (q : Int)) := by
            rw [round_at (by have := HM.out; omega), HFR.out.1, hq, HM.out]
          have hmem : rd_T52 sp (q : Int) ∈ sp := by
            unfold rd_T52
            rw [Int.toNat_natCast, List.getD_eq_getElem?_getD, List.getElem?_eq_getElem (by have := HM.out; omega)]
            exact List.getElem_mem _
          have HSB := Aside0.mk (HIN.out _ hmem)
          have HRA := Aside0.mk hra
          generalize rd_T52 sp (q : Int) = s at *
          have g1 : wr.cell? ⟨g, 1, none⟩ = some (.slice A m c) := (blk_cell ((HB.out.block g (blk_lt HG.out.1)).trans HG.out.1) 1).trans rfl
          subst hAe
          clear hra hmem hq hqm
          go_wp2_with (fail)
          refine start_ (n := 17) (S := fun w' => w'.cell? ⟨g, 1, none⟩ = some (.slice (some ae) m c) ∧ w'.cell? (ae.add (q * 2)) = some (.int .u64 s.f0) ∧ w'.cell? ⟨(ae.add (q * 2)).block, (ae.add (q * 2)).off + 1, none⟩ = some (.int .i64 s.f1)) (ds := []) #[false, false, false, false, false, false, false, false, false, false, false, false, false, false, false, false, false] (by kernel_rfl) rfl rfl ⟨g1, x0, x1⟩ (fun hHeld => ?_); refine with_tabW first.tab7 first.bits7 (fun HT_ HW_ => ?_)
          refine pure_ (i := 0) (N := some 39) (v := ?_) (a' := ?_) #[true, false, false, false, false, false, false, false, false, false, false, false, false, false, false, false, false] rfl rfl (any_of HT_.out (by kernel_rfl)) (fun _ _ _ h => h) (Or.inl ⟨by rfl, ?_⟩) ?_ ?_
          rotate_left
          · intro w'
            go_simp
            with_reducible rfl
          rotate_left
          · simp only [Act.put, List.setIfInBounds_toArray, List.set_cons_zero, List.set_cons_succ, i64_w, i32_w, xu32_w, xu8_w]
            rfl
          refine pure_ (i := 1) (N := some 40) (v := ?_) (a' := ?_) #[true, true, false, false, false, false, false, false, false, false, false, false, false, false, false, false, false] rfl rfl (any_of HT_.out (by kernel_rfl)) (fun _ _ _ h => h) (Or.inl ⟨by rfl, ?_⟩) ?_ ?_
          rotate_left
          · intro w'
            go_simp
            with_reducible rfl
          rotate_left
          · simp only [Act.put, List.setIfInBounds_toArray, List.set_cons_zero, List.set_cons_succ, i64_w, i32_w, xu32_w, xu8_w]
            rfl
          refine pure_ (i := 2) (N := some 41) (v := ?_) (a' := ?_) #[true, true, true, false, false, false, false, false, false, false, false, false, false, false, false, false, false] rfl rfl (any_of HT_.out (by kernel_rfl)) (fun _ _ _ h => h) (Or.inl ⟨by rfl, ?_⟩) ?_ ?_
          rotate_left
          · intro w'
            go_simp
            with_reducible rfl
          rotate_left
          · simp only [Act.put, List.setIfInBounds_toArray, List.set_cons_zero, List.set_cons_succ, i64_w, i32_w, xu32_w, xu8_w]
            rfl
          refine pure_ (i := 4) (N := some 43) (v := ?_) (a' := ?_) #[true, true, true, false, true, false, false, false, false, false, false, false, false, false, false, false, false] rfl rfl (any_of HT_.out (by kernel_rfl)) (fun _ _ _ h => h) (Or.inl ⟨by rfl, ?_⟩) ?_ ?_
          rotate_left
          · intro w'
            go_simp
            with_reducible rfl
          rotate_left
          · simp only [Act.put, List.setIfInBounds_toArray, List.set_cons_zero, List.set_cons_succ, i64_w, i32_w, xu32_w, xu8_w]
            rfl
          refine pure_ (i := 5) (N := some 44) (v := ?_) (a' := ?_) #[true, true, true, false, true, true, false, false, false, false, false, false, false, false, false, false, false] rfl rfl (any_of HT_.out (by kernel_rfl)) (fun _ _ _ h => h) (Or.inl ⟨by rfl, ?_⟩) ?_ ?_
          rotate_left
          · intro w'
            go_simp
            with_reducible rfl
          rotate_left
          · simp only [Act.put, List.setIfInBounds_toArray, List.set_cons_zero, List.set_cons_succ, i64_w, i32_w, xu32_w, xu8_w]
            rfl
          refine pure_ (i := 6) (N := some 45) (v := ?_) (a' := ?_) #[true, true, true, false, true, true, true, false, false, false, false, false, false, false, false, false, false] rfl rfl (any_of HT_.out (by kernel_rfl)) (fun _ _ _ h => h) (Or.inl ⟨by rfl, ?_⟩) ?_ ?_
          rotate_left
          · intro w'
            go_simp
            with_reducible rfl
          rotate_left
          · simp only [Act.put, List.setIfInBounds_toArray, List.set_cons_zero, List.set_cons_succ, i64_w, i32_w, xu32_w, xu8_w]
            rfl
          refine pure_ (i := 7) (N := some 46) (v := ?_) (a' := ?_) #[true, true, true, false, true, true, true, true, false, false, false, false, false, false, false, false, false] rfl rfl (any_of HT_.out (by kernel_rfl)) (fun _ _ _ h => h) (Or.inl ⟨by rfl, ?_⟩) ?_ ?_
          rotate_left
          · intro w'
            go_simp
            with_reducible rfl
          rotate_left
          · simp only [Act.put, List.setIfInBounds_toArray, List.set_cons_zero, List.set_cons_succ, i64_w, i32_w, xu32_w, xu8_w]
            rfl
          refine pure_ (i := 8) (N := some 47) (v := ?_) (a' := ?_) #[true, true, true, false, true, true, true, true, true, false, false, false, false, false, false, false, false] rfl rfl (any_of HT_.out (by kernel_rfl)) (fun _ _ _ h => h) (Or.inl ⟨by rfl, ?_⟩) ?_ ?_
          rotate_left
          · intro w'
            go_simp
            with_reducible rfl
          rotate_left
          · simp only [Act.put, List.setIfInBounds_toArray, List.set_cons_zero, List.set_cons_succ, i64_w, i32_w, xu32_w, xu8_w]
            rfl
          refine pure_ (i := 9) (N := some 48) (v := ?_) (a' := ?_) #[true, true, true, false, true, true, true, true, true, true, false, false, false, false, false, false, false] rfl rfl (any_of HT_.out (by kernel_rfl)) (fun _ _ _ h => h) (Or.inl ⟨by rfl, ?_⟩) ?_ ?_
          rotate_left
          · intro w'
            go_simp
            with_reducible rfl
          rotate_left
          · simp only [Act.put, List.setIfInBounds_toArray, List.set_cons_zero, List.set_cons_succ, i64_w, i32_w, xu32_w, xu8_w]
            rfl
          refine take_ (i := 3) (N := some 42) (v := ?_) (a' := ?_) #[true, true, true, true, true, true, true, true, true, true, false, false, false, false, false, false, false] rfl rfl (take_ofW HT_.out HW_.out (by kernel_rfl)) (fun _ _ _ h => h) (Or.inl ⟨by rfl, ?_⟩) hHeld ?_ ?_
          rotate_left
          · rintro w' ⟨s0, s1, s2⟩
            go_simp
            with_reducible rfl
          rotate_left
          · simp only [Act.put, List.setIfInBounds_toArray, List.set_cons_zero, List.set_cons_succ, i64_w, i32_w, xu32_w, xu8_w]
            rfl
          refine take_ (i := 10) (N := some 49) (v := ?_) (a' := ?_) #[true, true, true, true, true, true, true, true, true, true, true, false, false, false, false, false, false] rfl rfl (take_ofW HT_.out HW_.out (by kernel_rfl)) (fun _ _ _ h => h) (Or.inl ⟨by rfl, ?_⟩) hHeld ?_ ?_
          rotate_left
          · rintro w' ⟨s0, s1, s2⟩
            go_simp
            with_reducible rfl
          rotate_left
          · simp only [Act.put, List.setIfInBounds_toArray, List.set_cons_zero, List.set_cons_succ, i64_w, i32_w, xu32_w, xu8_w]
            rfl
          refine pure_ (i := 11) (N := some 50) (v := ?_) (a' := ?_) #[true, true, true, true, true, true, true, true, true, true, true, true, false, false, false, false, false] rfl rfl (any_of HT_.out (by kernel_rfl)) (fun _ _ _ h => h) (Or.inl ⟨by rfl, ?_⟩) ?_ ?_
          rotate_left
          · intro w'
            go_simp
            with_reducible rfl
          rotate_left
          · simp only [Act.put, List.setIfInBounds_toArray, List.set_cons_zero, List.set_cons_succ, i64_w, i32_w, xu32_w, xu8_w]
            rfl
          refine pure_ (i := 12) (N := some 51) (v := ?_) (a' := ?_) #[true, true, true, true, true, true, true, true, true, true, true, true, true, false, false, false, false] rfl rfl (any_of HT_.out (by kernel_rfl)) (fun _ _ _ h => h) (Or.inl ⟨by rfl, ?_⟩) ?_ ?_
          rotate_left
          · intro w'
            go_simp
            with_reducible rfl
          rotate_left
          · simp only [Act.put, List.setIfInBounds_toArray, List.set_cons_zero, List.set_cons_succ, i64_w, i32_w, xu32_w, xu8_w]
            rfl
          refine pure_ (i := 13) (N := some 52) (v := ?_) (a' := ?_) #[true, true, true, true, true, true, true, true, true, true, true, true, true, true, false, false, false] rfl rfl (any_of HT_.out (by kernel_rfl)) (fun _ _ _ h => h) (Or.inl ⟨by rfl, ?_⟩) ?_ ?_
          rotate_left
          · intro w'
            go_simp
            with_reducible rfl
          rotate_left
          · simp only [Act.put, List.setIfInBounds_toArray, List.set_cons_zero, List.set_cons_succ, i64_w, i32_w, xu32_w, xu8_w]
            rfl
          refine take_ (i := 14) (N := some 53) (v := ?_) (a' := ?_) #[true, true, true, true, true, true, true, true, true, true, true, true, true, true, true, false, false] rfl rfl (take_ofW HT_.out HW_.out (by kernel_rfl)) (fun _ _ _ h => h) (Or.inl ⟨by rfl, ?_⟩) hHeld ?_ ?_
          rotate_left
          · rintro w' ⟨s0, s1, s2⟩
            go_simp
            with_reducible rfl
          rotate_left
          · simp only [Act.put, List.setIfInBounds_toArray, List.set_cons_zero, List.set_cons_succ, i64_w, i32_w, xu32_w, xu8_w]
            rfl
          refine one_ (i := 15) (N := some 9) #[true, true, true, true, true, true, true, true, true, true, true, true, true, true, true, true, false] rfl rfl (one_of HT_.out (by kernel_rfl)) (by decide) (fun K hK => ?_)
          refine value_ (v := .pointer (some ⟨wr.drew.heap.size, 0, none⟩)) (w1 := wr.drew.alloc (.cells #[.int .u64 0, .int .i64 0] 52)) (by rfl) rfl (by first | (go_simp; done) | (go_simp; rfl)) ?_
          refine hK.out _ _ ⟨pw_cell_below (below_alloc (below_drew (Below.refl _ _)) _) g1, pw_cell_below (below_alloc (below_drew (Below.refl _ _)) _) x0, pw_cell_below (below_alloc (below_drew (Below.refl _ _)) _) x1⟩ (fun hHeld => ?_)
          clear hK K
          refine norm_ (a' := ?_) ?_ ?_
          rotate_left
          · show Act.put _ (some 9) _ = _
            simp only [Act.put, List.setIfInBounds_toArray, List.set_cons_zero, List.set_cons_succ, i64_w, i32_w, xu32_w, xu8_w]
            rfl
          refine one_ (i := 16) (N := none) #[true, true, true, true, true, true, true, true, true, true, true, true, true, true, true, true, true] rfl rfl (one_of HT_.out (by kernel_rfl)) (by decide) (fun K hK => ?_)
          obtain ⟨w6, hw6⟩ : ∃ w6 : World, w6 = wr.drew.alloc (.cells #[.int .u64 s.f0, .int .i64 s.f1] 52) := ⟨_, rfl⟩
          have HW6 : Aside0 (Below wr.heap.size wr w6) := ⟨by rw [hw6]; exact below_alloc (below_drew (Below.refl _ _)) _⟩
          have HG6 : Aside0 (w6.heap[wr.heap.size]? = some (.cells #[.int .u64 s.f0, .int .i64 s.f1] 52 (0, 0))) := ⟨by rw [hw6]; exact heap_alloc_new wr.drew _⟩
          refine skip_ (w1 := w6) (by rfl) rfl (by rw [hw6]; first | (go_simp; done) | (go_simp; rfl)) ?_
          refine hK.out _ _ ⟨pw_cell_below HW6.out g1, pw_cell_below HW6.out x0, pw_cell_below HW6.out x1⟩ (fun hHeld => ?_)
          clear hK K hw6
          refine done_ (done_of HT_.out (by kernel_rfl)) ?_
          clear hHeld HT_ HW_ x0 x1
          have hs0 := HSB.out.1
          have hs1 := HSB.out.2
          have HBW : Aside0 (Below wr.heap.size wr w6) := HW6
          have HA6 := Aside0.mk (HA2.out.below HW6.out)
          have hcn := HA6.out.cell (i := s.f1.toNat) (by omega)
          have HZ6 := Aside0.mk ((HW6.out.block _ (blk_lt HZ.out)).trans HZ.out)
          have HB6 := Aside0.mk (below_step HB.out HW6.out)
          obtain ⟨z0, z1, z2, z3⟩ := cells52 HZ6.out
          obtain ⟨t0, t1, t2, t3⟩ := cells52 HG6.out
          obtain ⟨b, hb⟩ : ∃ b : Bool, b = L.getD s.f1.toNat false := ⟨_, rfl⟩
          rw [← hb] at hcn
          have HBB := Aside0.mk hb
          clear hb
          cases b
          · go_wp2_with (fail)
            go_roundg k2
            case measure => omega
            case rel => exact ⟨j + 1, by first | rfl | (simp; done) | (rw [wrap_id (n := (j : Int) + 1) (by omega) (by have := HFW.out; omega)]; first | rfl | (simp; done)), ⟨by have := HJ.out; omega⟩, ⟨fun t s' ht hs' => by
              rcases Nat.lt_or_ge t j with h | h
              · exact HN.out t s' h hs'
              · have : t = j := by omega
                subst this
                rw [HRA.out] at hs'
                cases hs'
                exact HBB.out.symm⟩, HA6, HZ6, HB6⟩
          · have hfi : firstT sp p L = s := by
              unfold firstT
              rw [find_at HN.out HRA.out HBB.out.symm]
              rfl
            have HFI := Aside0.mk hfi
            clear hfi
            have HLD := Aside0.mk (load52 (blk_put (blk_put HZ6.out 0 (.int .u64 s.f0) rfl) 1 (.int .i64 s.f1) rfl))
            go_wp2_with (fail)
            ((try simp only [Exit.inBlock, Exit.then]); refine bodyPost_ret (results_c1 rfl _ _ (w.heap.size + 1) _ rfl HLD.out) rfl ?_)
            exact ⟨by rw [HFI.out], below_set (below_set HB6.out (by omega)) (by omega)⟩
        · have hj : j = m := by have := HJ.out; omega
          subst hj
          have hfi : firstT sp p L = ⟨0, -1⟩ := by
            unfold firstT
            rw [find_none HN.out (by rw [round_len, ← HM.out]; exact Nat.le_refl _)]
            rfl
          have HFI := Aside0.mk hfi
          obtain ⟨z0, z1, z2, z3⟩ := cells52 HZ.out
          have HLD := Aside0.mk (load52 (blk_put (blk_put HZ.out 0 (.int .u64 0) rfl) 1 (.int .i64 (-1)) rfl))
          clear hfi hlt
          go_wp2_with (fail)
          ((try simp only [Exit.inBlock, Exit.then]); refine bodyPost_ret (results_c1 rfl _ _ (w.heap.size + 1) _ rfl HLD.out) rfl ?_)
          exact ⟨by rw [HFI.out], below_set (below_set HB.out (by omega)) (by omega)⟩
end Go.Proofs.Ytibilnohnildcaa.R
