/- The ring by hand: New. -/
import Derived.Test.YtibilnohnildcaaR10
namespace Go.Proofs.Ytibilnohnildcaa.R
open Go.Shelf Go.RowKit Go.Proofs.Ytibilnohnildcaa.Q Go.Proofs.YtibilnohnildcaaW.PrintWords Go.Proofs.YtibilnohnildcaaW.PrintLast Go.Proofs.YtibilnohnildcaaW.PrintMore
set_option linter.unusedVariables false
set_option linter.unusedSimpArgs false
def rnew.T10 : Bool × List (List Nat × List Nat) := (true, [([], []), ([], []), ([1], [1]), ([2], [2]), ([3], [3]), ([], []), ([], []), ([5, 6], [5, 6]), ([], []), ([7, 8], [7, 8]), ([9], [9]), ([4, 10, 7], [4, 10]), ([0, 0, 1, 2, 3, 4, 5, 6, 7, 8, 9, 10, 11], [0]), ([12, 0, 1, 2, 3, 4, 5, 6, 7, 8, 9, 10, 11], [12]), ([13, 11, 11, 0, 1, 2, 3, 4, 5, 6, 7, 8, 9, 10, 11], [11, 13])])
def rnew.B10 : List Nat := [0, 0, 2, 6, 14, 0, 0, 96, 0, 480, 992, 2046, 4095, 8191, 16383]
theorem rnew.tab10 : rtab .any (opsOf Try.f12 10) = rnew.T10 := by kernel_rfl
theorem rnew.bits10 : waitsOk rnew.T10.2 rnew.B10 = true := by kernel_rfl
set_option maxHeartbeats 400000 in
set_option maxRecDepth 100000 in
theorem new_bad (n : Int) (w : World) (h : n < 3 ∨ 16 < n) : Calls Try.prog 12 #[.int .i64 n] w fun e w' => e = .returned (.tuple #[.pointer none, .int .i64 1]) ∧ w' = w := by
  have h2 : n < 3 ∨ (¬ n < 3 ∧ n > 16) := by omega
  clear h
  rcases h2 with b1 | ⟨b1, b2⟩
  all_goals
    go_enter Try.func12, Try.ntmps12
    go_wp2
    go_ret2
    exact ⟨rfl, rfl⟩
/-- A ring that is being made. -/
def NewI (w wr : World) (n : Nat) (sp : List S52) : Prop := (∃ v, wr.heap[w.heap.size]? = some (.cells #[.int .i64 n, v] 49 (0, 0)) ∧ k52.R 52 wr w.heap.size (fun k => w.heap.size < k) v sp) ∧ Below w.heap.size w wr
theorem take_spot (i k : Nat) (hk : k < 8) : (nodeSpots i).take (k + 1) = (nodeSpots i).take k ++ [⟨placeT (i : Int) (k : Int), (i : Int)⟩] := by
  rw [List.take_add_one]
  congr 1
  unfold nodeSpots
  rw [List.getElem?_map, List.getElem?_range hk]
  rfl
set_option maxHeartbeats 2000000 in
set_option maxRecDepth 100000 in
theorem new_calls (n : Nat) (w : World) (h3 : 3 ≤ n) (h16 : n ≤ 16) : Calls Try.prog 12 #[.int .i64 n] w fun e w' => ∃ g sp, e = .returned (.tuple #[.pointer (some ⟨g, 0, none⟩), .int .i64 0]) ∧ RingG w' g n sp ∧ IsRing n sp ∧ Below w.heap.size w w' := by
  have b1 : ¬ (n : Int) < 3 := by omega
  have b2 : ¬ (n : Int) > 16 := by omega
  have HN := Aside0.mk (And.intro h3 h16)
  go_enter Try.func12, Try.ntmps12
  go_wp2
  obtain ⟨wx, hwx⟩ : ∃ wx : World, wx = w.alloc (.cells #[.int .i64 n, .slice none 0 0] 49) := ⟨_, rfl⟩
  rw [← hwx]
  have HX : Aside0 (NewI w wx n (spotsU 0)) := ⟨by
    rw [hwx]
    exact ⟨⟨_, heap_alloc_new w _, Kd.R_nil _ _ _ _ _⟩, below_alloc (Below.refl _ _) _⟩⟩
  clear hwx
  go_loopg [17] (n + 1) (fun kq v17 wr => ∃ (i : Nat), v17 = .int .i64 i ∧ Aside0 (kq + i = n + 1 ∧ i ≤ n) ∧ Aside0 (NewI w wr n (spotsU i)))
  case atStart => exact ⟨0, rfl, ⟨by omega⟩, HX⟩
  case round =>
    obtain ⟨i, rfl, HI, HNI⟩ := hrel
    clear HX
    cases gk with
    | zero => have := HI.out; omega
    | succ k1 =>
    by_cases hlt : i < n
    · have hi1 : (i : Int) < (n : Int) := by omega
      go_wp2_with (fail)
      go_loopg [20] 9 (fun kq v20 wr => ∃ (k : Nat), v20 = .int .i64 k ∧ Aside0 (kq + k = 9 ∧ k ≤ 8) ∧ Aside0 (NewI w wr n (spotsU i ++ (nodeSpots i).take k)))
      case atStart => exact ⟨0, rfl, ⟨by omega⟩, ⟨by rw [List.take_zero, List.append_nil]; exact HNI.out⟩⟩
      case round =>
        obtain ⟨k, rfl, HK, HM⟩ := hrel
        cases gk with
        | zero => have := HK.out; omega
        | succ k2 =>
        by_cases hk8 : k < 8
        · have hk1 : (k : Int) < 8 := by omega
          obtain ⟨⟨v, hb, hR⟩, hB⟩ := HM.out
          have g1 : wr.cell? ⟨w.heap.size, 1, none⟩ = some v := (blk_cell hb 1).trans rfl
          have hll : (spotsU i ++ (nodeSpots i).take k).length ≤ 128 := by
            rw [List.length_append, spotsU_len, List.length_take, nodeSpots_len]; have := HN.out; omega
          have htk := take_spot i k hk8
          have HS := Aside0.mk (And.intro hb (And.intro hR (And.intro hB hll)))
          have HTK := Aside0.mk (show spotsU i ++ (nodeSpots i).take (k + 1) = (spotsU i ++ (nodeSpots i).take k) ++ [⟨placeT (i : Int) (k : Int), (i : Int)⟩] by rw [htk, List.append_assoc])
          clear hb hR hB hll htk HM
          generalize spotsU i ++ (nodeSpots i).take k = SP at *
          go_wp2_with (fail)
          refine start_ (n := 15) (S := fun w' => w'.cell? ⟨w.heap.size, 1, none⟩ = some v) (ds := [14]) #[false, false, false, false, false, false, false, false, false, false, false, false, false, false, false] (by kernel_rfl) rfl rfl g1 (fun hHeld => ?_); refine with_tabW rnew.tab10 rnew.bits10 (fun HT_ HW_ => ?_)
          refine pure_ (i := 0) (N := some 23) (v := ?_) (a' := ?_) #[true, false, false, false, false, false, false, false, false, false, false, false, false, false, false] rfl rfl (any_of HT_.out (by kernel_rfl)) (fun _ _ _ h => h) (Or.inl ⟨by rfl, ?_⟩) ?_ ?_
          rotate_left
          · intro w'
            go_simp
            with_reducible rfl
          rotate_left
          · simp only [Act.put, List.setIfInBounds_toArray, List.set_cons_zero, List.set_cons_succ, i64_w, i32_w, xu32_w, xu8_w]
            rfl
          refine pure_ (i := 1) (N := some 24) (v := ?_) (a' := ?_) #[true, true, false, false, false, false, false, false, false, false, false, false, false, false, false] rfl rfl (any_of HT_.out (by kernel_rfl)) (fun _ _ _ h => h) (Or.inl ⟨by rfl, ?_⟩) ?_ ?_
          rotate_left
          · intro w'
            go_simp
            with_reducible rfl
          rotate_left
          · simp only [Act.put, List.setIfInBounds_toArray, List.set_cons_zero, List.set_cons_succ, i64_w, i32_w, xu32_w, xu8_w]
            rfl
          refine pure_ (i := 2) (N := some 25) (v := ?_) (a' := ?_) #[true, true, true, false, false, false, false, false, false, false, false, false, false, false, false] rfl rfl (any_of HT_.out (by kernel_rfl)) (fun _ _ _ h => h) (Or.inl ⟨by rfl, ?_⟩) ?_ ?_
          rotate_left
          · intro w'
            go_simp
            with_reducible rfl
          rotate_left
          · simp only [Act.put, List.setIfInBounds_toArray, List.set_cons_zero, List.set_cons_succ, i64_w, i32_w, xu32_w, xu8_w]
            rfl
          refine pure_ (i := 3) (N := some 26) (v := ?_) (a' := ?_) #[true, true, true, true, false, false, false, false, false, false, false, false, false, false, false] rfl rfl (any_of HT_.out (by kernel_rfl)) (fun _ _ _ h => h) (Or.inl ⟨by rfl, ?_⟩) ?_ ?_
          rotate_left
          · intro w'
            go_simp
            with_reducible rfl
          rotate_left
          · simp only [Act.put, List.setIfInBounds_toArray, List.set_cons_zero, List.set_cons_succ, i64_w, i32_w, xu32_w, xu8_w]
            rfl
          refine pure_ (i := 5) (N := some 28) (v := ?_) (a' := ?_) #[true, true, true, true, false, true, false, false, false, false, false, false, false, false, false] rfl rfl (any_of HT_.out (by kernel_rfl)) (fun _ _ _ h => h) (Or.inl ⟨by rfl, ?_⟩) ?_ ?_
          rotate_left
          · intro w'
            go_simp
            with_reducible rfl
          rotate_left
          · simp only [Act.put, List.setIfInBounds_toArray, List.set_cons_zero, List.set_cons_succ, i64_w, i32_w, xu32_w, xu8_w]
            rfl
          refine pure_ (i := 6) (N := some 29) (v := ?_) (a' := ?_) #[true, true, true, true, false, true, true, false, false, false, false, false, false, false, false] rfl rfl (any_of HT_.out (by kernel_rfl)) (fun _ _ _ h => h) (Or.inl ⟨by rfl, ?_⟩) ?_ ?_
          rotate_left
          · intro w'
            go_simp
            with_reducible rfl
          rotate_left
          · simp only [Act.put, List.setIfInBounds_toArray, List.set_cons_zero, List.set_cons_succ, i64_w, i32_w, xu32_w, xu8_w]
            rfl
          refine pure_ (i := 8) (N := some 31) (v := ?_) (a' := ?_) #[true, true, true, true, false, true, true, false, true, false, false, false, false, false, false] rfl rfl (any_of HT_.out (by kernel_rfl)) (fun _ _ _ h => h) (Or.inl ⟨by rfl, ?_⟩) ?_ ?_
          rotate_left
          · intro w'
            go_simp
            with_reducible rfl
          rotate_left
          · simp only [Act.put, List.setIfInBounds_toArray, List.set_cons_zero, List.set_cons_succ, i64_w, i32_w, xu32_w, xu8_w]
            rfl
          refine take_ (i := 4) (N := some 27) (v := ?_) (a' := ?_) #[true, true, true, true, true, true, true, false, true, false, false, false, false, false, false] rfl rfl (take_ofW HT_.out HW_.out (by kernel_rfl)) (fun _ _ _ h => h) (Or.inl ⟨by rfl, ?_⟩) hHeld ?_ ?_
          rotate_left
          · rintro w' s0
            go_simp
            with_reducible rfl
          rotate_left
          · simp only [Act.put, List.setIfInBounds_toArray, List.set_cons_zero, List.set_cons_succ, i64_w, i32_w, xu32_w, xu8_w]
            rfl
          refine one_ (i := 7) (N := some 30) #[true, true, true, true, true, true, true, true, true, false, false, false, false, false, false] rfl rfl (one_of HT_.out (by kernel_rfl)) (by decide) (fun K hK => ?_)
          refine goes_ Try.func20 (by kernel_rfl) rfl #[.int .i64 (i : Int), .int .i64 (k : Int)] (by rfl) rfl rfl (by (try simp only [List.map_toArray, List.map_cons, List.map_nil]); first | done | rfl) ?_
          with_reducible refine (place_calls (i : Int) (k : Int) _).mono ?_
          rintro e w5 ⟨rfl, hb5⟩
          refine ⟨_, rfl, ?_⟩
          have hx5 : Below wr.heap.size wr w5 := below_step (below_drew (Below.refl _ _)) hb5
          have HX5 := Aside0.mk hx5
          refine hK.out _ _ (pw_cell_below hx5 g1) (fun hHeld => ?_)
          clear hK K hb5 hx5
          refine norm_ (a' := ?_) ?_ ?_
          rotate_left
          · show Act.put _ (some 30) _ = _
            simp only [Act.put, List.setIfInBounds_toArray, List.set_cons_zero, List.set_cons_succ, i64_w, i32_w, xu32_w, xu8_w]
            rfl
          refine pure_ (i := 9) (N := some 32) (v := ?_) (a' := ?_) #[true, true, true, true, true, true, true, true, true, true, false, false, false, false, false] rfl rfl (any_of HT_.out (by kernel_rfl)) (fun _ _ _ h => h) (Or.inl ⟨by rfl, ?_⟩) ?_ ?_
          rotate_left
          · intro w'
            go_simp
            with_reducible rfl
          rotate_left
          · simp only [Act.put, List.setIfInBounds_toArray, List.set_cons_zero, List.set_cons_succ, i64_w, i32_w, xu32_w, xu8_w]
            rfl
          refine one_ (i := 10) (N := some 33) #[true, true, true, true, true, true, true, true, true, true, true, false, false, false, false] rfl rfl (one_of HT_.out (by kernel_rfl)) (by decide) (fun K hK => ?_)
          refine value_ (v := .slice (some ⟨w5.heap.size, 0, none⟩) 1 1) (w1 := w5.alloc (.cells #[.int .u64 (placeT (i : Int) (k : Int)), .int .i64 (i : Int)] 52)) (by rfl) rfl (by first | (go_simp; done) | (go_simp; rfl)) ?_
          refine hK.out _ _ (pw_cell_below (below_alloc HX5.out _) g1) (fun hHeld => ?_)
          clear hK K
          refine norm_ (a' := ?_) ?_ ?_
          rotate_left
          · show Act.put _ (some 33) _ = _
            simp only [Act.put, List.setIfInBounds_toArray, List.set_cons_zero, List.set_cons_succ, i64_w, i32_w, xu32_w, xu8_w]
            rfl
          refine one_ (i := 11) (N := some 34) #[true, true, true, true, true, true, true, true, true, true, true, true, false, false, false] rfl rfl (one_of HT_.out (by kernel_rfl)) (by decide) (fun K hK => ?_)
          refine Kd.R_append_step k52 (w0 := w) w.heap.size (by rfl) (.tmp 27) (.tmp 33) 47 52 (.agg #[.int .u64 0, .int .i64 0]) 16 rfl Try.underlying47 info52 rfl (by decide) (by omega) v SP (⟨placeT (i : Int) (k : Int), (i : Int)⟩ : S52) [.int .u64 (placeT (i : Int) (k : Int)), .int .i64 (i : Int)] (fun k => w.heap.size < k) (fun _ => False) rfl rfl ?aP ?aK ?aF ?aO ?aB ?aS ?aL ?_
          (case aP => exact k52_mkM _ _ _ _)
          (case aK => exact fun k hk => hk.elim)
          (case aF => exact fun k hk => by have h1 := HX5.out.size; have h2 := blk_lt HS.out.1; omega)
          (case aO => exact Kd.R_below HS.out.2.1 HX5.out)
          (case aB => exact below_step HS.out.2.2.1 HX5.out)
          (case aS => have h1 := HX5.out.size; have h2 := blk_lt HS.out.1; omega)
          (case aL => have := HS.out.2.2.2; omega)
          intro v6' w6 ho hb hg hat
          obtain ⟨A6, cc6, hv6⟩ := Kd.R_slice ho
          subst hv6
          generalize hl6 : (SP ++ [(⟨placeT (i : Int) (k : Int), (i : Int)⟩ : S52)]).length = n6 at *
          clear hl6
          have hg5 := (HX5.out.block _ (blk_lt HS.out.1)).trans HS.out.1
          have hg6 : w6.heap[w.heap.size]? = some (.cells #[.int .i64 n, v] 49 (0, 0)) := (hg.block _ (blk_lt hg5) (fun e => by have := HS.out.2.1.1 _ e.symm; omega)).trans hg5
          have c6 : w6.cell? ⟨w.heap.size, 1, none⟩ = some v := (blk_cell hg6 1).trans rfl
          have f6 := blk_frozen hg6 1
          have HFIN : Aside0 (NewI w (w6.setCell ⟨w.heap.size, 1, none⟩ (.slice A6 n6 cc6)) n (SP ++ [⟨placeT (i : Int) (k : Int), (i : Int)⟩])) := ⟨⟨⟨.slice A6 n6 cc6, blk_put hg6 1 _ rfl, Kd.R_set ho hg6 (fun q hq => by have : q = 52 := (by simpa [k52, Kd.iso, Kd.pair, Kd.int, Kd.scalar] using hq); rw [this]; decide) 1 _⟩, below_set hb (Nat.le_refl _)⟩⟩
          refine hK.out _ _ c6 (fun hHeld => ?_)
          clear hK K ho hb hg hat hg5 hg6
          refine norm_ (a' := ?_) ?_ ?_
          rotate_left
          · show Act.put _ (some 34) _ = _
            simp only [Act.put, List.setIfInBounds_toArray, List.set_cons_zero, List.set_cons_succ, i64_w, i32_w, xu32_w, xu8_w]
            rfl
          refine pure_ (i := 12) (N := some 35) (v := ?_) (a' := ?_) #[true, true, true, true, true, true, true, true, true, true, true, true, true, false, false] rfl rfl (any_of HT_.out (by kernel_rfl)) (fun _ _ _ h => h) (Or.inl ⟨by rfl, ?_⟩) ?_ ?_
          rotate_left
          · intro w'
            go_simp
            with_reducible rfl
          rotate_left
          · simp only [Act.put, List.setIfInBounds_toArray, List.set_cons_zero, List.set_cons_succ, i64_w, i32_w, xu32_w, xu8_w]
            rfl
          refine pure_ (i := 13) (N := some 36) (v := ?_) (a' := ?_) #[true, true, true, true, true, true, true, true, true, true, true, true, true, true, false] rfl rfl (any_of HT_.out (by kernel_rfl)) (fun _ _ _ h => h) (Or.inl ⟨by rfl, ?_⟩) ?_ ?_
          rotate_left
          · intro w'
            go_simp
            with_reducible rfl
          rotate_left
          · simp only [Act.put, List.setIfInBounds_toArray, List.set_cons_zero, List.set_cons_succ, i64_w, i32_w, xu32_w, xu8_w]
            rfl
          refine last_ (i := 14) (N := none) #[true, true, true, true, true, true, true, true, true, true, true, true, true, true, true] rfl rfl (one_of HT_.out (by kernel_rfl)) (by decide) (fun K hK => ?_)
          refine skip_ (w1 := w6.setCell ⟨w.heap.size, 1, none⟩ (.slice A6 n6 cc6)) (by rfl) rfl (by first | (go_simp; done) | (go_simp; rfl)) ?_
          refine hK.out _ _ ?_
          clear hK K c6 f6
          refine done_ (done_of HT_.out (by kernel_rfl)) ?_
          clear hHeld HT_ HW_ g1
          go_wp2_with (fail)
          go_roundg k2
          case measure => omega
          case rel => exact ⟨k + 1, by first | rfl | (simp; done) | (rw [wrap_id (n := (k : Int) + 1) (by omega) (by omega)]; first | rfl | (simp; done)), ⟨by have := HK.out; omega⟩, ⟨by rw [HTK.out]; exact HFIN.out⟩⟩
        · have hk : k = 8 := by have := HK.out; omega
          subst hk
          go_wp2_with (fail)
          go_roundg k1
          case measure => omega
          case rel => exact ⟨i + 1, by first | rfl | (simp; done) | (rw [wrap_id (n := (i : Int) + 1) (by omega) (by omega)]; first | rfl | (simp; done)), ⟨by have := HI.out; omega⟩, ⟨by
            have := HM.out
            rw [List.take_of_length_le (by rw [nodeSpots_len]; exact Nat.le_refl _)] at this
            rw [spotsU_succ]
            exact this⟩⟩
    · have hi : i = n := by have := HI.out; omega
      subst hi
      obtain ⟨⟨v, hb, hR⟩, hB⟩ := HNI.out
      have hlen := spotsU_len i
      obtain ⟨blk, cap, hv, hge, hlt2, cs, hcs⟩ := Kd.R_form hR (by omega)
      subst hv
      have hrd := Kd.R_reads' hR
      have hbg : w.heap.size < blk := hR.1 blk rfl
      have g1 : wr.cell? ⟨w.heap.size, 1, none⟩ = some (.slice (some ⟨blk, 0, none⟩) (spotsU i).length cap) := (blk_cell hb 1).trans rfl
      have hso := sort_calls (w := wr) (cap := cap) (SP := spotsU i) (fun s hs => by
        obtain ⟨a, k, ha, hk, rfl⟩ := mem_spotsU.1 hs
        exact ⟨by show (0 : Int) ≤ (a : Int); omega, by show (a : Int) < 16; omega⟩) (by omega) hrd.2.2 (fun j => blk_frozen hcs j) hlt2
      have HSO := Aside0.mk hso
      have HZ := Aside0.mk (And.intro hb (And.intro hB (And.intro hrd.2.1 (And.intro hbg hlen))))
      clear hb hR hB hlen hrd hbg hso hcs hge hlt2 hlt
      go_wp2_with (go_at_call 25; (with_reducible refine HSO.out.mono ?_); rintro e w9 ⟨rfl, h9⟩; have H9 := Aside0.mk h9; clear h9)
      go_ret2
      obtain ⟨sp, hp, hs, hC, hG⟩ := H9.out
      obtain ⟨hb, hB, hcap, hbg, hlen⟩ := HZ.out
      have hl2 := hp.length_eq
      refine ⟨_, sp, rfl, ⟨⟨_, cap, (hG.block _ (blk_lt hb) (fun e => by injection e with e; omega)).trans (by rw [hb, hl2]), hC, by omega⟩, by omega, by omega, by omega⟩, ⟨hp, hs⟩, ?_⟩
      exact pw_below_grown hB _ hB.size hG (fun k hk => by injection hk with hk; omega)
end Go.Proofs.Ytibilnohnildcaa.R
