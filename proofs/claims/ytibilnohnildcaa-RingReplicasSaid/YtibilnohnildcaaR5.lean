/- The sum of a text by hand: the walk of the document's XX. -/
import Derived.Test.YtibilnohnildcaaR4
namespace Go.Proofs.Ytibilnohnildcaa.R
open Go.RowKit Go.Proofs.Ytibilnohnildcaa.Q Go.Proofs.YtibilnohnildcaaW.PrintWords Go.Proofs.YtibilnohnildcaaW.PrintLast Go.Proofs.YtibilnohnildcaaW.PrintMore
set_option linter.unusedVariables false
set_option linter.unusedSimpArgs false
def yy.T9 : Bool × List (List Nat × List Nat) := (true, [([], []), ([], []), ([1], [1]), ([2], [2]), ([], []), ([], []), ([5], [5]), ([], []), ([7], [7]), ([8], [8]), ([4, 6, 9], [4, 6, 9]), ([10], [10]), ([3, 11, 11], [3, 11]), ([0, 0, 1, 2, 3, 4, 5, 6, 7, 8, 9, 10, 11, 12], [0]), ([13, 12, 12, 0, 1, 2, 3, 4, 5, 6, 7, 8, 9, 10, 11, 12], [12, 13])])
def yy.B9 : List Nat := [0, 0, 2, 6, 0, 0, 32, 0, 128, 384, 1008, 2032, 4094, 8191, 16383]
theorem yy.tab9 : rtab .any (opsOf Try.f34 9) = yy.T9 := by kernel_rfl
theorem yy.bits9 : waitsOk yy.T9.2 yy.B9 = true := by kernel_rfl
def yy.T12 : Bool × List (List Nat × List Nat) := (true, [([], []), ([0], [0]), ([1], [1]), ([], []), ([3], [3]), ([4, 2], [4]), ([2, 5], [2, 5]), ([], []), ([7], [7]), ([8, 5], [8]), ([6, 9], [6, 9]), ([], []), ([11], [11]), ([12, 9], [12]), ([10, 13], [10, 13]), ([14, 13, 0, 1, 2, 3, 4, 5, 6, 7, 8, 9, 10, 11, 12, 13, 14], [14])])
def yy.B12 : List Nat := [0, 1, 3, 0, 8, 31, 63, 0, 128, 447, 1023, 0, 2048, 7103, 16383, 32767]
theorem yy.tab12 : rtab .any (opsOf Try.f34 12) = yy.T12 := by kernel_rfl
theorem yy.bits12 : waitsOk yy.T12.2 yy.B12 = true := by kernel_rfl
set_option maxHeartbeats 4000000 in
set_option maxRecDepth 100000 in
theorem yy_small (A : Option Addr) (c : Nat) (l : List Int) (w : World) (hr : (Kd.int .u8).C w A l.length l) (hc : l.length ≤ c) (hlen : l.length ≤ 140737488355328) (hby : Bytes l) (h32 : ¬ 32 ≤ l.length) :
    Calls Try.prog 34 #[.slice A l.length c] w fun e w' => e = .returned (.int .u64 (xx l)) ∧ Below w.heap.size w w' := by
  have HC0 := Aside0.mk (show (Kd.int .u8).C w A l.length l ∧ l.length ≤ c ∧ l.length < l.length + 1 ∧ l.length ≤ 140737488355328 from ⟨hr, hc, by omega, hlen⟩)
  have HB0 := Aside0.mk (Below.refl w.heap.size w)
  have HYZ := Aside0.mk hby
  have hge : ¬ (l.length : Int) ≥ 32 := by omega
  have hxx := xx_small_eq h32
  rw [tail_eq] at hxx
  generalize xx l = r at *
  obtain ⟨pF, hpF⟩ : ∃ p, words8 (l.length + 1) (IntKind.u64.wrap (2870177450012600261 + (l.length : Int))) l = p := ⟨_, rfl⟩
  have HPF := Aside0.mk hpF
  rw [hpF] at hxx
  have HXF := Aside0.mk hxx.symm
  clear hxx hpF hr hc hlen h32 hby
  go_enter Try.func34, Try.ntmps34
  go_wp2_with (fail)
  go_loopg [0, 3] (l.length + 1) (fun kq v0 v4 wr => ∃ (A' : Option Addr) (c' : Nat) (l' : List Int) (h' : Int), v0 = .slice A' l'.length c' ∧ v4 = .int .u64 h' ∧ Aside0 ((Kd.int .u8).C wr A' l'.length l' ∧ l'.length ≤ c' ∧ l'.length < kq ∧ l'.length ≤ 140737488355328) ∧ Aside0 (words8 kq h' l' = pF) ∧ Aside0 (Below w.heap.size w wr) ∧ Aside0 (Bytes l'))
  case atStart => exact ⟨_, _, l, (IntKind.u64.wrap (2870177450012600261 + (l.length : Int))), rfl, by first | with_reducible rfl | (have := HC0.out.2.2.2; simp [IntKind.wrap, IntKind.bits, IntKind.signed]; omega), HC0, HPF, HB0, HYZ⟩
  case round =>
    obtain ⟨A', c', l', h', rfl, rfl, HC, HW, HB, HY⟩ := hrel
    clear HPF HC0 HB0 HYZ
    cases gk with
    | zero => have := HC.out.2.2.1; omega
    | succ k1 =>
    by_cases h8 : 8 ≤ l'.length
    · have hge : (l'.length : Int) ≥ 8 := by omega
      obtain ⟨A2, c2, hcut, hC2, hc2⟩ := cutF 8 8 rfl (by omega) HC.out.1 HC.out.2.1 h8
      have hto := cutT (A := A') 8 8 rfl (by omega) HC.out.2.1 h8
      have h88 : (l'.take 8).length = 8 := by rw [List.length_take]; omega
      have HLO := Aside0.mk (rlow8_calls (w := wr) (c := c') (Kd.C_take HC.out.1 h8) (by have := HC.out.2.1; omega) (HY.out.take 8) h88)
      have HC2 := Aside0.mk (And.intro hC2 hc2)
      have hW := HW.out
      unfold words8 at hW
      rw [if_pos h8] at hW
      have HW2 := Aside0.mk hW
      have HYD := Aside0.mk (HY.out.drop 8)
      have hdl : (l'.drop 8).length = l'.length - 8 := List.length_drop
      have HDL := Aside0.mk hdl
      clear hC2 hc2 hW h88 hdl h8
      generalize lowT (l'.take 8) = x8 at *
      generalize l'.drop 8 = l2 at *
      go_wp2_with (first
        | (go_at_call 45; (with_reducible refine HLO.out.mono ?_); rintro e w5 ⟨rfl, hd⟩; have HB5 := Aside0.mk (below_step HB.out hd.below); have HC5 := Aside0.mk (Kd.C_below HC2.out.1 hd.below); clear hd)
        | (go_at_call 44; (with_reducible refine (manometerref03_round.calls _ _ _ _ (lrnd_f _ _)).mono ?_); rintro e w6 ⟨rfl, hd⟩; have HB6 := Aside0.mk (below_step HB5.out hd.below); have HC6 := Aside0.mk (Kd.C_below HC5.out hd.below); clear hd)
        | (go_at_call 46; (with_reducible refine (manometerref03_left.calls _ _ _ _ (lrot27 _)).mono ?_); rintro e w7 ⟨rfl, hd⟩; have HB7 := Aside0.mk (below_step HB6.out hd.below); have HC7 := Aside0.mk (Kd.C_below HC6.out hd.below); clear hd))
      go_roundg k1
      case measure => omega
      case rel => exact ⟨A2, c2, l2, _, rfl, rfl, ⟨HC7.out, HC2.out.2, by have := HDL.out; have := HC.out.2.2.1; omega, by have := HDL.out; have := HC.out.2.2.2; omega⟩, HW2, HB7, HYD⟩
    · have hge : ¬ (l'.length : Int) ≥ 8 := by omega
      have hW := HW.out
      unfold words8 at hW
      rw [if_neg h8] at hW
      obtain rfl := hW
      clear h8 HW
      by_cases h4 : 4 ≤ l'.length
      · have hg4 : (l'.length : Int) ≥ 4 := by omega
        obtain ⟨A2, c2, hcut, hC2, hc2⟩ := cutF 4 4 rfl (by omega) HC.out.1 HC.out.2.1 h4
        have hto := cutT (A := A') 4 4 rfl (by omega) HC.out.2.1 h4
        have h44 : (l'.take 4).length = 4 := by rw [List.length_take]; omega
        have HLO := Aside0.mk (rlow4_calls (w := wr) (c := c') (Kd.C_take HC.out.1 h4) (by have := HC.out.2.1; omega) (HY.out.take 4) h44)
        have HC2 := Aside0.mk (And.intro hC2 hc2)
        have HX := HXF.out
        unfold word4 at HX
        rw [if_pos h4] at HX
        have HXF2 := Aside0.mk HX
        have HDL := Aside0.mk (show (l'.drop 4).length ≤ 140737488355328 by rw [List.length_drop]; have := HC.out.2.2.2; omega)
        clear hC2 hc2 HX HXF h44 h4
        generalize lowT (l'.take 4) = x4 at *
        generalize l'.drop 4 = l2 at *
        go_wp2_with (first
          | (go_at_call 45; (with_reducible refine HLO.out.mono ?_); rintro e w5 ⟨rfl, hd⟩; have HB5 := Aside0.mk (below_step HB.out hd.below); have HC5 := Aside0.mk (Kd.C_below HC2.out.1 hd.below); clear hd)
          | (go_at_call 46; (with_reducible refine (manometerref03_left.calls _ _ _ _ (lrot23 _)).mono ?_); rintro e w7 ⟨rfl, hd⟩; have HB7 := Aside0.mk (below_step HB5.out hd.below); have HC7 := Aside0.mk (Kd.C_below HC5.out hd.below); clear hd))
        go_loopg [3, 105] (l2.length + 1) (fun kq v4 v105 wq => ∃ (j : Nat), v4 = .int .u64 (bytesT (IntKind.u64.wrap (IntKind.u64.wrap (rotT (Go.bits .xor .u64 h' (IntKind.u64.wrap (x4 * 11400714785074694791))) 23 * 14029467366897019727) + 1609587929392839161)) l2 j) ∧ v105 = .int .i64 j ∧ Aside0 (kq + j = l2.length + 1 ∧ j ≤ l2.length) ∧ Aside0 ((Kd.int .u8).C wq A2 l2.length l2) ∧ Aside0 (Below w.heap.size w wq))
        case atStart => exact ⟨0, rfl, rfl, ⟨by omega⟩, HC7, HB7⟩
        case round =>
          obtain ⟨j, rfl, rfl, HJ, HCq, HBq⟩ := hrel
          cases gk with
          | zero => have := HJ.out; omega
          | succ k2 =>
          by_cases hlt : j < l2.length
          · have hj0 : (0 : Int) ≤ (j : Int) := by omega
            have hj1 : (j : Int) < (l2.length : Int) := by omega
            obtain ⟨ad, hA, y0⟩ := Kd.at_int HCq.out (j : Int) hj0 hj1
            simp only [Int.toNat_natCast] at y0
            have HAE := Aside0.mk hA
            subst hA
            go_wp2_with (go_at_call 46; (with_reducible refine (manometerref03_left.calls _ _ _ _ (lrot11 _)).mono ?_); rintro e w8 ⟨rfl, hd⟩; have HB8 := Aside0.mk (below_step HBq.out hd.below); have HC8 := Aside0.mk (Kd.C_below HCq.out hd.below); clear hd)
            go_roundg k2
            case measure => omega
            case rel => exact ⟨j + 1, rfl, by first | rfl | (simp; done) | (rw [wrap_id (n := (j : Int) + 1) (by omega) (by have := HDL.out; omega)]; first | rfl | (simp; done)), ⟨by have := HJ.out; omega⟩, HC8, HB8⟩
          · have hj : j = l2.length := by have := HJ.out; omega
            subst hj
            go_wp2_with (fail)
            go_ret
            exact ⟨by rw [← HXF2.out]; rfl, HBq.out⟩
      · have hg4 : ¬ (l'.length : Int) ≥ 4 := by omega
        have HX := HXF.out
        unfold word4 at HX
        rw [if_neg h4] at HX
        have HXF2 := Aside0.mk HX
        have HC7 := Aside0.mk HC.out.1
        have HB7 := HB
        have HDL := Aside0.mk (show l'.length ≤ 140737488355328 from HC.out.2.2.2)
        have HC2 := Aside0.mk (And.intro HC.out.1 HC.out.2.1)
        clear HX HXF h4 HC HB
        go_wp2_with (fail)
        go_loopg [3, 105] (l'.length + 1) (fun kq v4 v105 wq => ∃ (j : Nat), v4 = .int .u64 (bytesT h' l' j) ∧ v105 = .int .i64 j ∧ Aside0 (kq + j = l'.length + 1 ∧ j ≤ l'.length) ∧ Aside0 ((Kd.int .u8).C wq A' l'.length l') ∧ Aside0 (Below w.heap.size w wq))
        case atStart => exact ⟨0, rfl, rfl, ⟨by omega⟩, HC7, HB7⟩
        case round =>
          obtain ⟨j, rfl, rfl, HJ, HCq, HBq⟩ := hrel
          cases gk with
          | zero => have := HJ.out; omega
          | succ k2 =>
          by_cases hlt : j < l'.length
          · have hj0 : (0 : Int) ≤ (j : Int) := by omega
            have hj1 : (j : Int) < (l'.length : Int) := by omega
            obtain ⟨ad, hA, y0⟩ := Kd.at_int HCq.out (j : Int) hj0 hj1
            simp only [Int.toNat_natCast] at y0
            have HAE := Aside0.mk hA
            subst hA
            go_wp2_with (go_at_call 46; (with_reducible refine (manometerref03_left.calls _ _ _ _ (lrot11 _)).mono ?_); rintro e w8 ⟨rfl, hd⟩; have HB8 := Aside0.mk (below_step HBq.out hd.below); have HC8 := Aside0.mk (Kd.C_below HCq.out hd.below); clear hd)
            go_roundg k2
            case measure => omega
            case rel => exact ⟨j + 1, rfl, by first | rfl | (simp; done) | (rw [wrap_id (n := (j : Int) + 1) (by omega) (by have := HDL.out; omega)]; first | rfl | (simp; done)), ⟨by have := HJ.out; omega⟩, HC8, HB8⟩
          · have hj : j = l'.length := by have := HJ.out; omega
            subst hj
            go_wp2_with (fail)
            go_ret
            exact ⟨by rw [← HXF2.out]; rfl, HBq.out⟩
set_option maxHeartbeats 4000000 in
set_option maxRecDepth 100000 in
theorem yy_great (A : Option Addr) (c : Nat) (l : List Int) (w : World) (hr : (Kd.int .u8).C w A l.length l) (hc : l.length ≤ c) (hlen : l.length ≤ 140737488355328) (hby : Bytes l) (h32 : 32 ≤ l.length) :
    Calls Try.prog 34 #[.slice A l.length c] w fun e w' => e = .returned (.int .u64 (xx l)) ∧ Below w.heap.size w w' := by
  have HC0 := Aside0.mk (And.intro hr hc)
  have HLN := Aside0.mk hlen
  have HYA := Aside0.mk hby
  have hge : (l.length : Int) ≥ 32 := by omega
  have hxx := xx_great_eq h32
  generalize xx l = r at *
  obtain ⟨csF, hcsF⟩ : ∃ p, (stripes (l.length + 1) begin4 l).1 = p := ⟨_, rfl⟩
  obtain ⟨lF, hlF⟩ : ∃ p, (stripes (l.length + 1) begin4 l).2 = p := ⟨_, rfl⟩
  have HSF := Aside0.mk (show stripes (l.length + 1) begin4 l = (csF, lF) from by rw [← hcsF, ← hlF])
  rw [hcsF, hlF, tail_eq] at hxx
  have HXX := Aside0.mk hxx.symm
  clear hxx hcsF hlF hr hc hlen h32 hby
  have hwl : IntKind.u64.wrap (l.length : Int) = (l.length : Int) := by have := HLN.out; simp [IntKind.wrap, IntKind.bits, IntKind.signed]; omega
  go_enter Try.func34, Try.ntmps34
  go_wp2_with (fail)
  clear hwl
  obtain ⟨w1, hw1⟩ : ∃ w1 : World, w1 = w.alloc (.cells #[.int .u64 (IntKind.u64.wrap 25430182151971714518), .int .u64 14029467366897019727, .int .u64 0, .int .u64 (IntKind.u64.wrap (-11400714785074694791))] 68) := ⟨_, rfl⟩
  have HF1 : Aside0 (Four w1 w.heap.size begin4) := ⟨by rw [hw1]; exact ⟨rfl, heap_alloc_new w _⟩⟩
  have HB1 : Aside0 (Below w.heap.size w w1) := ⟨by rw [hw1]; exact below_alloc (Below.refl _ _) _⟩
  rw [← hw1]
  clear hw1
  go_loopg [0] (l.length + 1) (fun kq v0 wr => ∃ (A' : Option Addr) (c' : Nat) (l' cs : List Int), v0 = .slice A' l'.length c' ∧ Aside0 ((Kd.int .u8).C w A' l'.length l' ∧ l'.length ≤ c' ∧ l'.length < kq ∧ l'.length ≤ 140737488355328) ∧ Aside0 (stripes kq cs l' = (csF, lF)) ∧ Aside0 (Four wr w.heap.size cs) ∧ Aside0 (Below w.heap.size w wr) ∧ Aside0 (Bytes l'))
  case atStart => exact ⟨A, c, l, begin4, rfl, ⟨HC0.out.1, HC0.out.2, by omega, HLN.out⟩, HSF, HF1, HB1, HYA⟩
  case round =>
    obtain ⟨A', c', l', cs, rfl, HC, HS, HF, HB, HY⟩ := hrel
    clear HSF HF1 HB1
    cases gk with
    | zero => have := HC.out.2.2.1; omega
    | succ k1 =>
    by_cases h32 : 32 ≤ l'.length
    · have hge2 : (l'.length : Int) ≥ 32 := by omega
      have hS := HS.out
      unfold stripes at hS
      rw [if_pos h32] at hS
      have HS2 := Aside0.mk hS
      have HP := Aside0.mk (And.intro h32 HC.out)
      clear hS HS HC h32
      go_wp2_with (fail)
      go_loopg [28] 5 (fun kq v31 wq => ∃ (i : Nat), v31 = .int .i64 i ∧ Aside0 (kq + i = 5 ∧ i ≤ 4) ∧ Aside0 (Four wq w.heap.size (lanes cs l' i)) ∧ Aside0 (Below w.heap.size w wq))
      case atStart => exact ⟨0, rfl, ⟨by omega⟩, HF, HB⟩
      case round =>
        obtain ⟨i, rfl, HI, HFq, HBq⟩ := hrel
        cases gk with
        | zero => have := HI.out; omega
        | succ k2 =>
        by_cases hlt : i < 4
        · have hi0 : (0 : Int) ≤ (i : Int) := by omega
          have hi4 : (i : Int) < 4 := by omega
          have hw1 : wrap64 (8 * (i : Int)) = 8 * (i : Int) := wrap_id (by omega) (by omega)
          have hw2 : wrap64 (8 * (i : Int) + 8) = 8 * (i : Int) + 8 := wrap_id (by omega) (by omega)
          obtain ⟨A2, c2, hcut, hC2, hc2⟩ := cutM (wrap64 (8 * (i : Int))) (wrap64 (wrap64 (8 * (i : Int)) + 8)) (8 * i) (8 * i + 8) (by rw [hw1]; omega) (by rw [hw1, hw2]; omega) (by rw [hw1]; omega) (by rw [hw1, hw2]; omega) (by have := HP.out.1; omega) HP.out.2.1 HP.out.2.2.1
          rw [show 8 * i + 8 - 8 * i = 8 by omega] at hcut
          have h88 : ((l'.take (8 * i + 8)).drop (8 * i)).length = 8 := by rw [List.length_drop, List.length_take]; have := HP.out.1; omega
          have HLO := Aside0.mk (rlow8_calls (w := wr.drew) (Kd.C_below hC2 (below_drew HBq.out)) hc2 ((HY.out.take _).drop _) h88)
          have hc0 := HFq.out.cell hlt
          have hfz := HFq.out.frozen i
          have HLA := Aside0.mk (show lanes cs l' (i + 1) = (lanes cs l' i).set i (rndT ((lanes cs l' i).getD i 0) (lowT ((l'.take (8 * i + 8)).drop (8 * i)))) from rfl)
          clear hC2 hc2 h88 hw1 hw2
          generalize lowT ((l'.take (8 * i + 8)).drop (8 * i)) = x8 at *
          generalize (lanes cs l' i).getD i 0 = y at *
          go_wp2_with (fail)
          refine start_ (n := 15) (S := fun w' => w'.cell? ⟨w.heap.size, i, none⟩ = some (.int .u64 y)) (ds := [14]) #[false, false, false, false, false, false, false, false, false, false, false, false, false, false, false] (by kernel_rfl) rfl rfl hc0 (fun hHeld => ?_); refine with_tabW yy.tab9 yy.bits9 (fun HT_ HW_ => ?_)
          refine pure_ (i := 0) (N := some 31) (v := ?_) (a' := ?_) #[true, false, false, false, false, false, false, false, false, false, false, false, false, false, false] rfl rfl (any_of HT_.out (by kernel_rfl)) (fun _ _ _ h => h) (Or.inl ⟨by rfl, ?_⟩) ?_ ?_
          rotate_left
          · intro w'
            go_simp
            with_reducible rfl
          rotate_left
          · simp only [Act.put, List.setIfInBounds_toArray, List.set_cons_zero, List.set_cons_succ, i64_w, i32_w, xu32_w, xu8_w]
            rfl
          refine pure_ (i := 1) (N := some 32) (v := ?_) (a' := ?_) #[true, true, false, false, false, false, false, false, false, false, false, false, false, false, false] rfl rfl (any_of HT_.out (by kernel_rfl)) (fun _ _ _ h => h) (Or.inl ⟨by rfl, ?_⟩) ?_ ?_
          rotate_left
          · intro w'
            go_simp
            with_reducible rfl
          rotate_left
          · simp only [Act.put, List.setIfInBounds_toArray, List.set_cons_zero, List.set_cons_succ, i64_w, i32_w, xu32_w, xu8_w]
            rfl
          refine pure_ (i := 2) (N := some 33) (v := ?_) (a' := ?_) #[true, true, true, false, false, false, false, false, false, false, false, false, false, false, false] rfl rfl (any_of HT_.out (by kernel_rfl)) (fun _ _ _ h => h) (Or.inl ⟨by rfl, ?_⟩) ?_ ?_
          rotate_left
          · intro w'
            go_simp
            with_reducible rfl
          rotate_left
          · simp only [Act.put, List.setIfInBounds_toArray, List.set_cons_zero, List.set_cons_succ, i64_w, i32_w, xu32_w, xu8_w]
            rfl
          refine pure_ (i := 4) (N := some 35) (v := ?_) (a' := ?_) #[true, true, true, false, true, false, false, false, false, false, false, false, false, false, false] rfl rfl (any_of HT_.out (by kernel_rfl)) (fun _ _ _ h => h) (Or.inl ⟨by rfl, ?_⟩) ?_ ?_
          rotate_left
          · intro w'
            go_simp
            with_reducible rfl
          rotate_left
          · simp only [Act.put, List.setIfInBounds_toArray, List.set_cons_zero, List.set_cons_succ, i64_w, i32_w, xu32_w, xu8_w]
            rfl
          refine pure_ (i := 5) (N := some 36) (v := ?_) (a' := ?_) #[true, true, true, false, true, true, false, false, false, false, false, false, false, false, false] rfl rfl (any_of HT_.out (by kernel_rfl)) (fun _ _ _ h => h) (Or.inl ⟨by rfl, ?_⟩) ?_ ?_
          rotate_left
          · intro w'
            go_simp
            with_reducible rfl
          rotate_left
          · simp only [Act.put, List.setIfInBounds_toArray, List.set_cons_zero, List.set_cons_succ, i64_w, i32_w, xu32_w, xu8_w]
            rfl
          refine pure_ (i := 6) (N := some 37) (v := ?_) (a' := ?_) #[true, true, true, false, true, true, true, false, false, false, false, false, false, false, false] rfl rfl (any_of HT_.out (by kernel_rfl)) (fun _ _ _ h => h) (Or.inl ⟨by rfl, ?_⟩) ?_ ?_
          rotate_left
          · intro w'
            go_simp
            with_reducible rfl
          rotate_left
          · simp only [Act.put, List.setIfInBounds_toArray, List.set_cons_zero, List.set_cons_succ, i64_w, i32_w, xu32_w, xu8_w]
            rfl
          refine pure_ (i := 7) (N := some 38) (v := ?_) (a' := ?_) #[true, true, true, false, true, true, true, true, false, false, false, false, false, false, false] rfl rfl (any_of HT_.out (by kernel_rfl)) (fun _ _ _ h => h) (Or.inl ⟨by rfl, ?_⟩) ?_ ?_
          rotate_left
          · intro w'
            go_simp
            with_reducible rfl
          rotate_left
          · simp only [Act.put, List.setIfInBounds_toArray, List.set_cons_zero, List.set_cons_succ, i64_w, i32_w, xu32_w, xu8_w]
            rfl
          refine pure_ (i := 8) (N := some 39) (v := ?_) (a' := ?_) #[true, true, true, false, true, true, true, true, true, false, false, false, false, false, false] rfl rfl (any_of HT_.out (by kernel_rfl)) (fun _ _ _ h => h) (Or.inl ⟨by rfl, ?_⟩) ?_ ?_
          rotate_left
          · intro w'
            go_simp
            with_reducible rfl
          rotate_left
          · simp only [Act.put, List.setIfInBounds_toArray, List.set_cons_zero, List.set_cons_succ, i64_w, i32_w, xu32_w, xu8_w]
            rfl
          refine pure_ (i := 9) (N := some 40) (v := ?_) (a' := ?_) #[true, true, true, false, true, true, true, true, true, true, false, false, false, false, false] rfl rfl (any_of HT_.out (by kernel_rfl)) (fun _ _ _ h => h) (Or.inl ⟨by rfl, ?_⟩) ?_ ?_
          rotate_left
          · intro w'
            go_simp
            with_reducible rfl
          rotate_left
          · simp only [Act.put, List.setIfInBounds_toArray, List.set_cons_zero, List.set_cons_succ, i64_w, i32_w, xu32_w, xu8_w]
            rfl
          refine pure_ (i := 10) (N := some 41) (v := ?_) (a' := ?_) #[true, true, true, false, true, true, true, true, true, true, true, false, false, false, false] rfl rfl (any_of HT_.out (by kernel_rfl)) (fun _ _ _ h => h) (Or.inl ⟨by rfl, ?_⟩) ?_ ?_
          rotate_left
          · intro w'
            go_simp
            with_reducible rfl
          rotate_left
          · simp only [Act.put, List.setIfInBounds_toArray, List.set_cons_zero, List.set_cons_succ, i64_w, i32_w, xu32_w, xu8_w]
            rfl
          refine take_ (i := 3) (N := some 34) (v := ?_) (a' := ?_) #[true, true, true, true, true, true, true, true, true, true, true, false, false, false, false] rfl rfl (take_ofW HT_.out HW_.out (by kernel_rfl)) (fun _ _ _ h => h) (Or.inl ⟨by rfl, ?_⟩) hHeld ?_ ?_
          rotate_left
          · rintro w' s0
            go_simp
            with_reducible rfl
          rotate_left
          · simp only [Act.put, List.setIfInBounds_toArray, List.set_cons_zero, List.set_cons_succ, i64_w, i32_w, xu32_w, xu8_w]
            rfl
          refine one_ (i := 11) (N := some 42) #[true, true, true, true, true, true, true, true, true, true, true, true, false, false, false] rfl rfl (one_of HT_.out (by kernel_rfl)) (by decide) (fun K hK => ?_)
          refine goes_ Try.func45 (by kernel_rfl) rfl #[.slice A2 8 c2] (by rfl) rfl rfl (by (try simp only [List.map_toArray, List.map_cons, List.map_nil]); first | done | rfl) ?_
          with_reducible refine (HLO.out).mono ?_
          rintro e w5 ⟨rfl, hd⟩
          refine ⟨_, rfl, ?_⟩
          have hb5 : Below wr.heap.size wr w5 := below_step (below_drew (Below.refl _ _)) hd.below
          have HB5 := Aside0.mk hb5
          refine hK.out _ _ (pw_cell_below hb5 hc0) (fun hHeld => ?_)
          clear hK K hd hb5
          refine norm_ (a' := ?_) ?_ ?_
          rotate_left
          · show Act.put _ (some 42) _ = _
            simp only [Act.put, List.setIfInBounds_toArray, List.set_cons_zero, List.set_cons_succ, i64_w, i32_w, xu32_w, xu8_w]
            rfl
          refine one_ (i := 12) (N := some 43) #[true, true, true, true, true, true, true, true, true, true, true, true, true, false, false] rfl rfl (one_of HT_.out (by kernel_rfl)) (by decide) (fun K hK => ?_)
          refine goes_ Try.func44 (by kernel_rfl) rfl #[.int .u64 y, .int .u64 x8] (by rfl) rfl rfl (by (try simp only [List.map_toArray, List.map_cons, List.map_nil]); first | done | rfl) ?_
          with_reducible refine (manometerref03_round.calls _ _ _ _ (lrnd_f _ _)).mono ?_
          rintro e w6 ⟨rfl, hd⟩
          refine ⟨_, rfl, ?_⟩
          have hb6 : Below wr.heap.size wr w6 := below_step HB5.out hd.below
          have hF6 := HFq.out.below hb6
          have hk6 : w6.cell? ⟨w.heap.size, i, none⟩ = some (.int .u64 y) := pw_cell_below hb6 hc0
          have hz6 := hF6.frozen i
          have HW6 := Aside0.mk (And.intro (hF6.set i (rndT y x8)) (below_set (j := i) (v := .int .u64 (rndT y x8)) (below_step HBq.out hb6) (Nat.le_refl _)))
          refine hK.out _ _ hk6 (fun hHeld => ?_)
          clear hK K hd hb6 hF6
          refine norm_ (a' := ?_) ?_ ?_
          rotate_left
          · show Act.put _ (some 43) _ = _
            simp only [Act.put, List.setIfInBounds_toArray, List.set_cons_zero, List.set_cons_succ, i64_w, i32_w, xu32_w, xu8_w]
            rfl
          refine pure_ (i := 13) (N := some 44) (v := ?_) (a' := ?_) #[true, true, true, true, true, true, true, true, true, true, true, true, true, true, false] rfl rfl (any_of HT_.out (by kernel_rfl)) (fun _ _ _ h => h) (Or.inl ⟨by rfl, ?_⟩) ?_ ?_
          rotate_left
          · intro w'
            go_simp
            with_reducible rfl
          rotate_left
          · simp only [Act.put, List.setIfInBounds_toArray, List.set_cons_zero, List.set_cons_succ, i64_w, i32_w, xu32_w, xu8_w]
            rfl
          refine last_ (i := 14) (N := none) #[true, true, true, true, true, true, true, true, true, true, true, true, true, true, true] rfl rfl (one_of HT_.out (by kernel_rfl)) (by decide) (fun K hK => ?_)
          refine skip_ (w1 := w6.setCell ⟨w.heap.size, i, none⟩ (.int .u64 (rndT y x8))) (by rfl) rfl (by first | (go_simp; done) | (go_simp; rfl)) ?_
          refine hK.out _ _ ?_
          clear hK K hk6 hz6
          refine done_ (done_of HT_.out (by kernel_rfl)) ?_
          clear hHeld HT_ HW_
          go_wp2_with (fail)
          go_roundg k2
          case measure => omega
          case rel => exact ⟨i + 1, by first | rfl | (simp; done) | (rw [wrap_id (n := (i : Int) + 1) (by omega) (by omega)]; first | rfl | (simp; done)), ⟨by have := HI.out; omega⟩, ⟨by rw [HLA.out]; exact HW6.out.1⟩, ⟨HW6.out.2⟩⟩
        · have hi : i = 4 := by have := HI.out; omega
          subst hi
          obtain ⟨A2, c2, hcut, hC2, hc2⟩ := cutF 32 32 rfl (by omega) HP.out.2.1 HP.out.2.2.1 HP.out.1
          have HC2 := Aside0.mk (And.intro hC2 hc2)
          have HYD := Aside0.mk (HY.out.drop 32)
          have HDL := Aside0.mk (show (l'.drop 32).length = l'.length - 32 from List.length_drop)
          clear hC2 hc2
          generalize l'.drop 32 = l2 at *
          go_wp2_with (fail)
          go_roundg k1
          case measure => omega
          case rel => exact ⟨A2, c2, l2, _, rfl, ⟨HC2.out.1, HC2.out.2, by have := HDL.out; have := HP.out; omega, by have := HDL.out; have := HP.out; omega⟩, HS2, HFq, HBq, HYD⟩
    · have hge2 : ¬ (l'.length : Int) ≥ 32 := by omega
      have hS := HS.out
      unfold stripes at hS
      rw [if_neg h32] at hS
      injection hS with e1 e2
      subst e1 e2
      clear h32 HS
      have f0 := HF.out.cell (i := 0) (by omega)
      have f1 := HF.out.cell (i := 1) (by omega)
      have f2 := HF.out.cell (i := 2) (by omega)
      have f3 := HF.out.cell (i := 3) (by omega)
      go_wp2_with (fail)
      refine start_ (n := 16) (S := fun w' => w'.cell? ⟨w.heap.size, 0, none⟩ = some (.int .u64 (cs.getD 0 0)) ∧ w'.cell? ⟨w.heap.size, 1, none⟩ = some (.int .u64 (cs.getD 1 0)) ∧ w'.cell? ⟨w.heap.size, 2, none⟩ = some (.int .u64 (cs.getD 2 0)) ∧ w'.cell? ⟨w.heap.size, 3, none⟩ = some (.int .u64 (cs.getD 3 0))) (ds := []) #[false, false, false, false, false, false, false, false, false, false, false, false, false, false, false, false] (by kernel_rfl) rfl rfl ⟨f0, f1, f2, f3⟩ (fun hHeld => ?_); refine with_tabW yy.tab12 yy.bits12 (fun HT_ HW_ => ?_)
      refine pure_ (i := 0) (N := some 48) (v := ?_) (a' := ?_) #[true, false, false, false, false, false, false, false, false, false, false, false, false, false, false, false] rfl rfl (any_of HT_.out (by kernel_rfl)) (fun _ _ _ h => h) (Or.inl ⟨by rfl, ?_⟩) ?_ ?_
      rotate_left
      · intro w'
        go_simp
        with_reducible rfl
      rotate_left
      · simp only [Act.put, List.setIfInBounds_toArray, List.set_cons_zero, List.set_cons_succ, i64_w, i32_w, xu32_w, xu8_w]
        rfl
      refine pure_ (i := 3) (N := some 51) (v := ?_) (a' := ?_) #[true, false, false, true, false, false, false, false, false, false, false, false, false, false, false, false] rfl rfl (any_of HT_.out (by kernel_rfl)) (fun _ _ _ h => h) (Or.inl ⟨by rfl, ?_⟩) ?_ ?_
      rotate_left
      · intro w'
        go_simp
        with_reducible rfl
      rotate_left
      · simp only [Act.put, List.setIfInBounds_toArray, List.set_cons_zero, List.set_cons_succ, i64_w, i32_w, xu32_w, xu8_w]
        rfl
      refine pure_ (i := 7) (N := some 55) (v := ?_) (a' := ?_) #[true, false, false, true, false, false, false, true, false, false, false, false, false, false, false, false] rfl rfl (any_of HT_.out (by kernel_rfl)) (fun _ _ _ h => h) (Or.inl ⟨by rfl, ?_⟩) ?_ ?_
      rotate_left
      · intro w'
        go_simp
        with_reducible rfl
      rotate_left
      · simp only [Act.put, List.setIfInBounds_toArray, List.set_cons_zero, List.set_cons_succ, i64_w, i32_w, xu32_w, xu8_w]
        rfl
      refine pure_ (i := 11) (N := some 59) (v := ?_) (a' := ?_) #[true, false, false, true, false, false, false, true, false, false, false, true, false, false, false, false] rfl rfl (any_of HT_.out (by kernel_rfl)) (fun _ _ _ h => h) (Or.inl ⟨by rfl, ?_⟩) ?_ ?_
      rotate_left
      · intro w'
        go_simp
        with_reducible rfl
      rotate_left
      · simp only [Act.put, List.setIfInBounds_toArray, List.set_cons_zero, List.set_cons_succ, i64_w, i32_w, xu32_w, xu8_w]
        rfl
      refine take_ (i := 1) (N := some 49) (v := ?_) (a' := ?_) #[true, true, false, true, false, false, false, true, false, false, false, true, false, false, false, false] rfl rfl (take_ofW HT_.out HW_.out (by kernel_rfl)) (fun _ _ _ h => h) (Or.inl ⟨by rfl, ?_⟩) hHeld ?_ ?_
      rotate_left
      · rintro w' ⟨s0, s1, s2, s3⟩
        go_simp
        with_reducible rfl
      rotate_left
      · simp only [Act.put, List.setIfInBounds_toArray, List.set_cons_zero, List.set_cons_succ, i64_w, i32_w, xu32_w, xu8_w]
        rfl
      refine take_ (i := 4) (N := some 52) (v := ?_) (a' := ?_) #[true, true, false, true, true, false, false, true, false, false, false, true, false, false, false, false] rfl rfl (take_ofW HT_.out HW_.out (by kernel_rfl)) (fun _ _ _ h => h) (Or.inl ⟨by rfl, ?_⟩) hHeld ?_ ?_
      rotate_left
      · rintro w' ⟨s0, s1, s2, s3⟩
        go_simp
        with_reducible rfl
      rotate_left
      · simp only [Act.put, List.setIfInBounds_toArray, List.set_cons_zero, List.set_cons_succ, i64_w, i32_w, xu32_w, xu8_w]
        rfl
      refine take_ (i := 8) (N := some 56) (v := ?_) (a' := ?_) #[true, true, false, true, true, false, false, true, true, false, false, true, false, false, false, false] rfl rfl (take_ofW HT_.out HW_.out (by kernel_rfl)) (fun _ _ _ h => h) (Or.inl ⟨by rfl, ?_⟩) hHeld ?_ ?_
      rotate_left
      · rintro w' ⟨s0, s1, s2, s3⟩
        go_simp
        with_reducible rfl
      rotate_left
      · simp only [Act.put, List.setIfInBounds_toArray, List.set_cons_zero, List.set_cons_succ, i64_w, i32_w, xu32_w, xu8_w]
        rfl
      refine take_ (i := 12) (N := some 60) (v := ?_) (a' := ?_) #[true, true, false, true, true, false, false, true, true, false, false, true, true, false, false, false] rfl rfl (take_ofW HT_.out HW_.out (by kernel_rfl)) (fun _ _ _ h => h) (Or.inl ⟨by rfl, ?_⟩) hHeld ?_ ?_
      rotate_left
      · rintro w' ⟨s0, s1, s2, s3⟩
        go_simp
        with_reducible rfl
      rotate_left
      · simp only [Act.put, List.setIfInBounds_toArray, List.set_cons_zero, List.set_cons_succ, i64_w, i32_w, xu32_w, xu8_w]
        rfl
      refine one_ (i := 2) (N := some 50) #[true, true, true, true, true, false, false, true, true, false, false, true, true, false, false, false] rfl rfl (one_of HT_.out (by kernel_rfl)) (by decide) (fun K hK => ?_)
      refine goes_ Try.func46 (by kernel_rfl) rfl #[.int .u64 (cs.getD 0 0), .int .u64 1] (by rfl) rfl rfl (by (try simp only [List.map_toArray, List.map_cons, List.map_nil]); first | done | rfl) ?_
      with_reducible refine (manometerref03_left.calls _ _ _ _ (lrot1 _)).mono ?_
      rintro e wg0 ⟨rfl, hd⟩
      refine ⟨_, rfl, ?_⟩
      have hg0 : Below wr.heap.size wr wg0 := below_step (below_drew (Below.refl _ _)) hd.below
      have HG0 := Aside0.mk hg0
      refine hK.out _ _ ⟨pw_cell_below hg0 f0, pw_cell_below hg0 f1, pw_cell_below hg0 f2, pw_cell_below hg0 f3⟩ (fun hHeld => ?_)
      clear hK K hd hg0
      refine norm_ (a' := ?_) ?_ ?_
      rotate_left
      · show Act.put _ (some 50) _ = _
        simp only [Act.put, List.setIfInBounds_toArray, List.set_cons_zero, List.set_cons_succ, i64_w, i32_w, xu32_w, xu8_w]
        rfl
      refine one_ (i := 5) (N := some 53) #[true, true, true, true, true, true, false, true, true, false, false, true, true, false, false, false] rfl rfl (one_of HT_.out (by kernel_rfl)) (by decide) (fun K hK => ?_)
      refine goes_ Try.func46 (by kernel_rfl) rfl #[.int .u64 (cs.getD 1 0), .int .u64 7] (by rfl) rfl rfl (by (try simp only [List.map_toArray, List.map_cons, List.map_nil]); first | done | rfl) ?_
      with_reducible refine (manometerref03_left.calls _ _ _ _ (lrot7 _)).mono ?_
      rintro e wg1 ⟨rfl, hd⟩
      refine ⟨_, rfl, ?_⟩
      have hg1 : Below wr.heap.size wr wg1 := below_step HG0.out hd.below
      have HG1 := Aside0.mk hg1
      refine hK.out _ _ ⟨pw_cell_below hg1 f0, pw_cell_below hg1 f1, pw_cell_below hg1 f2, pw_cell_below hg1 f3⟩ (fun hHeld => ?_)
      clear hK K hd hg1
      refine norm_ (a' := ?_) ?_ ?_
      rotate_left
      · show Act.put _ (some 53) _ = _
        simp only [Act.put, List.setIfInBounds_toArray, List.set_cons_zero, List.set_cons_succ, i64_w, i32_w, xu32_w, xu8_w]
        rfl
      refine pure_ (i := 6) (N := some 54) (v := ?_) (a' := ?_) #[true, true, true, true, true, true, true, true, true, false, false, true, true, false, false, false] rfl rfl (any_of HT_.out (by kernel_rfl)) (fun _ _ _ h => h) (Or.inl ⟨by rfl, ?_⟩) ?_ ?_
      rotate_left
      · intro w'
        go_simp
        with_reducible rfl
      rotate_left
      · simp only [Act.put, List.setIfInBounds_toArray, List.set_cons_zero, List.set_cons_succ, i64_w, i32_w, xu32_w, xu8_w]
        rfl
      refine one_ (i := 9) (N := some 57) #[true, true, true, true, true, true, true, true, true, true, false, true, true, false, false, false] rfl rfl (one_of HT_.out (by kernel_rfl)) (by decide) (fun K hK => ?_)
      refine goes_ Try.func46 (by kernel_rfl) rfl #[.int .u64 (cs.getD 2 0), .int .u64 12] (by rfl) rfl rfl (by (try simp only [List.map_toArray, List.map_cons, List.map_nil]); first | done | rfl) ?_
      with_reducible refine (manometerref03_left.calls _ _ _ _ (lrot12 _)).mono ?_
      rintro e wg2 ⟨rfl, hd⟩
      refine ⟨_, rfl, ?_⟩
      have hg2 : Below wr.heap.size wr wg2 := below_step HG1.out hd.below
      have HG2 := Aside0.mk hg2
      refine hK.out _ _ ⟨pw_cell_below hg2 f0, pw_cell_below hg2 f1, pw_cell_below hg2 f2, pw_cell_below hg2 f3⟩ (fun hHeld => ?_)
      clear hK K hd hg2
      refine norm_ (a' := ?_) ?_ ?_
      rotate_left
      · show Act.put _ (some 57) _ = _
        simp only [Act.put, List.setIfInBounds_toArray, List.set_cons_zero, List.set_cons_succ, i64_w, i32_w, xu32_w, xu8_w]
        rfl
      refine pure_ (i := 10) (N := some 58) (v := ?_) (a' := ?_) #[true, true, true, true, true, true, true, true, true, true, true, true, true, false, false, false] rfl rfl (any_of HT_.out (by kernel_rfl)) (fun _ _ _ h => h) (Or.inl ⟨by rfl, ?_⟩) ?_ ?_
      rotate_left
      · intro w'
        go_simp
        with_reducible rfl
      rotate_left
      · simp only [Act.put, List.setIfInBounds_toArray, List.set_cons_zero, List.set_cons_succ, i64_w, i32_w, xu32_w, xu8_w]
        rfl
      refine one_ (i := 13) (N := some 61) #[true, true, true, true, true, true, true, true, true, true, true, true, true, true, false, false] rfl rfl (one_of HT_.out (by kernel_rfl)) (by decide) (fun K hK => ?_)
      refine goes_ Try.func46 (by kernel_rfl) rfl #[.int .u64 (cs.getD 3 0), .int .u64 18] (by rfl) rfl rfl (by (try simp only [List.map_toArray, List.map_cons, List.map_nil]); first | done | rfl) ?_
      with_reducible refine (manometerref03_left.calls _ _ _ _ (lrot18 _)).mono ?_
      rintro e wg3 ⟨rfl, hd⟩
      refine ⟨_, rfl, ?_⟩
      have hg3 : Below wr.heap.size wr wg3 := below_step HG2.out hd.below
      have HG3 := Aside0.mk hg3
      refine hK.out _ _ ⟨pw_cell_below hg3 f0, pw_cell_below hg3 f1, pw_cell_below hg3 f2, pw_cell_below hg3 f3⟩ (fun hHeld => ?_)
      clear hK K hd hg3
      refine norm_ (a' := ?_) ?_ ?_
      rotate_left
      · show Act.put _ (some 61) _ = _
        simp only [Act.put, List.setIfInBounds_toArray, List.set_cons_zero, List.set_cons_succ, i64_w, i32_w, xu32_w, xu8_w]
        rfl
      refine pure_ (i := 14) (N := some 62) (v := ?_) (a' := ?_) #[true, true, true, true, true, true, true, true, true, true, true, true, true, true, true, false] rfl rfl (any_of HT_.out (by kernel_rfl)) (fun _ _ _ h => h) (Or.inl ⟨by rfl, ?_⟩) ?_ ?_
      rotate_left
      · intro w'
        go_simp
        with_reducible rfl
      rotate_left
      · simp only [Act.put, List.setIfInBounds_toArray, List.set_cons_zero, List.set_cons_succ, i64_w, i32_w, xu32_w, xu8_w]
        rfl
      refine pure_ (i := 15) (N := some 3) (v := ?_) (a' := ?_) #[true, true, true, true, true, true, true, true, true, true, true, true, true, true, true, true] rfl rfl (any_of HT_.out (by kernel_rfl)) (fun _ _ _ h => h) (Or.inl ⟨by rfl, ?_⟩) ?_ ?_
      rotate_left
      · intro w'
        go_simp
        with_reducible rfl
      rotate_left
      · simp only [Act.put, List.setIfInBounds_toArray, List.set_cons_zero, List.set_cons_succ, i64_w, i32_w, xu32_w, xu8_w]
        rfl
      refine done_ (done_of HT_.out (by kernel_rfl)) ?_
      clear HT_ HW_ f0 f1 f2 f3
      obtain ⟨f0, f1, f2, f3⟩ := hHeld
      have HB3 := Aside0.mk (below_step HB.out HG3.out)
      have HXY := Aside0.mk (show lastT (bytesT (word4 (words8 (l'.length + 1) (IntKind.u64.wrap (mrgs (sum4 cs) cs 4 + (l.length : Int))) l').1 (words8 (l'.length + 1) (IntKind.u64.wrap (mrgs (sum4 cs) cs 4 + (l.length : Int))) l').2).1 (word4 (words8 (l'.length + 1) (IntKind.u64.wrap (mrgs (sum4 cs) cs 4 + (l.length : Int))) l').1 (words8 (l'.length + 1) (IntKind.u64.wrap (mrgs (sum4 cs) cs 4 + (l.length : Int))) l').2).2 (word4 (words8 (l'.length + 1) (IntKind.u64.wrap (mrgs (sum4 cs) cs 4 + (l.length : Int))) l').1 (words8 (l'.length + 1) (IntKind.u64.wrap (mrgs (sum4 cs) cs 4 + (l.length : Int))) l').2).2.length) = r from HXX.out)
      clear HXX
      go_wp2_with (fail)
      go_loopg [3, 63] 5 (fun kq v3 v63 wq => ∃ j : Nat, v3 = .int .u64 (mrgs (sum4 cs) cs j) ∧ v63 = .int .i64 j ∧ Aside0 (kq + j = 5 ∧ j ≤ 4) ∧ Aside0 (Below w.heap.size w wq) ∧ Aside0 (Four wq w.heap.size cs))
      case atStart => exact ⟨0, rfl, rfl, ⟨by omega⟩, HB3, ⟨HF.out.below HG3.out⟩⟩
      case round =>
        obtain ⟨j, rfl, rfl, HJ, HBz, HFz⟩ := hrel
        clear f0 f1 f2 f3
        cases gk with
        | zero => have := HJ.out; omega
        | succ k2 =>
        by_cases hlt : j < 4
        · have hj0 : (0 : Int) ≤ (j : Int) := by omega
          have hj1 : (j : Int) < 4 := by omega
          have hcj := HFz.out.cell hlt
          have HMJ := Aside0.mk (show mrgs (sum4 cs) cs (j + 1) = mrgT (mrgs (sum4 cs) cs j) (cs.getD j 0) from rfl)
          generalize cs.getD j 0 = y at *
          go_wp2_with (go_at_call 47; (with_reducible refine (manometerref03_merge.calls _ _ _ _ (lmrg_f _ _)).mono ?_); rintro e w8 ⟨rfl, hd⟩; have HB8 := Aside0.mk (below_step HBz.out hd.below); have HF8 := Aside0.mk (HFz.out.below hd.below); clear hd)
          go_roundg k2
          case measure => omega
          case rel => exact ⟨j + 1, by rw [HMJ.out], by first | rfl | (simp; done) | (rw [wrap_id (n := (j : Int) + 1) (by omega) (by omega)]; first | rfl | (simp; done)), ⟨by have := HJ.out; omega⟩, HB8, HF8⟩
        · have hj : j = 4 := by have := HJ.out; omega
          subst hj
          go_wp2_with (fail)
          have hlu : IntKind.u64.wrap (mrgs (sum4 cs) cs 4 + (l.length : Int)) = IntKind.u64.wrap (mrgs (sum4 cs) cs 4 + (l.length : Int)) := rfl
          generalize IntKind.u64.wrap (mrgs (sum4 cs) cs 4 + (l.length : Int)) = h0 at *
          clear hlu
          obtain ⟨pF, hpF⟩ : ∃ p, words8 (l'.length + 1) h0 l' = p := ⟨_, rfl⟩
          have HPF := Aside0.mk hpF
          have HXF := HXY.out
          rw [hpF] at HXF
          replace HXF := Aside0.mk HXF
          have HCZ := Aside0.mk (show (Kd.int .u8).C wr A' l'.length l' ∧ l'.length ≤ c' ∧ l'.length < l'.length + 1 ∧ l'.length ≤ 140737488355328 from ⟨Kd.C_below HC.out.1 HBz.out, HC.out.2.1, by omega, HC.out.2.2.2⟩)
          have HYZ := HY
          clear HXY hpF HC HY
          go_loopg [0, 3] (l'.length + 1) (fun kq v0 v4 wr => ∃ (A' : Option Addr) (c' : Nat) (l' : List Int) (h' : Int), v0 = .slice A' l'.length c' ∧ v4 = .int .u64 h' ∧ Aside0 ((Kd.int .u8).C wr A' l'.length l' ∧ l'.length ≤ c' ∧ l'.length < kq ∧ l'.length ≤ 140737488355328) ∧ Aside0 (words8 kq h' l' = pF) ∧ Aside0 (Below w.heap.size w wr) ∧ Aside0 (Bytes l'))
          case atStart => exact ⟨_, _, l', h0, rfl, by first | with_reducible rfl | (have := HCZ.out.2.2.2; simp [IntKind.wrap, IntKind.bits, IntKind.signed]; omega), HCZ, HPF, HBz, HYZ⟩
          case round =>
            obtain ⟨A', c', l', h', rfl, rfl, HC, HW, HB, HY⟩ := hrel
            clear HPF HCZ HBz HYZ
            cases gk with
            | zero => have := HC.out.2.2.1; omega
            | succ k1 =>
            by_cases h8 : 8 ≤ l'.length
            · have hge : (l'.length : Int) ≥ 8 := by omega
              obtain ⟨A2, c2, hcut, hC2, hc2⟩ := cutF 8 8 rfl (by omega) HC.out.1 HC.out.2.1 h8
              have hto := cutT (A := A') 8 8 rfl (by omega) HC.out.2.1 h8
              have h88 : (l'.take 8).length = 8 := by rw [List.length_take]; omega
              have HLO := Aside0.mk (rlow8_calls (w := wr) (c := c') (Kd.C_take HC.out.1 h8) (by have := HC.out.2.1; omega) (HY.out.take 8) h88)
              have HC2 := Aside0.mk (And.intro hC2 hc2)
              have hW := HW.out
              unfold words8 at hW
              rw [if_pos h8] at hW
              have HW2 := Aside0.mk hW
              have HYD := Aside0.mk (HY.out.drop 8)
              have hdl : (l'.drop 8).length = l'.length - 8 := List.length_drop
              have HDL := Aside0.mk hdl
              clear hC2 hc2 hW h88 hdl h8
              generalize lowT (l'.take 8) = x8 at *
              generalize l'.drop 8 = l2 at *
              go_wp2_with (first
                | (go_at_call 45; (with_reducible refine HLO.out.mono ?_); rintro e w5 ⟨rfl, hd⟩; have HB5 := Aside0.mk (below_step HB.out hd.below); have HC5 := Aside0.mk (Kd.C_below HC2.out.1 hd.below); clear hd)
                | (go_at_call 44; (with_reducible refine (manometerref03_round.calls _ _ _ _ (lrnd_f _ _)).mono ?_); rintro e w6 ⟨rfl, hd⟩; have HB6 := Aside0.mk (below_step HB5.out hd.below); have HC6 := Aside0.mk (Kd.C_below HC5.out hd.below); clear hd)
                | (go_at_call 46; (with_reducible refine (manometerref03_left.calls _ _ _ _ (lrot27 _)).mono ?_); rintro e w7 ⟨rfl, hd⟩; have HB7 := Aside0.mk (below_step HB6.out hd.below); have HC7 := Aside0.mk (Kd.C_below HC6.out hd.below); clear hd))
              go_roundg k1
              case measure => omega
              case rel => exact ⟨A2, c2, l2, _, rfl, rfl, ⟨HC7.out, HC2.out.2, by have := HDL.out; have := HC.out.2.2.1; omega, by have := HDL.out; have := HC.out.2.2.2; omega⟩, HW2, HB7, HYD⟩
            · have hge : ¬ (l'.length : Int) ≥ 8 := by omega
              have hW := HW.out
              unfold words8 at hW
              rw [if_neg h8] at hW
              obtain rfl := hW
              clear h8 HW
              by_cases h4 : 4 ≤ l'.length
              · have hg4 : (l'.length : Int) ≥ 4 := by omega
                obtain ⟨A2, c2, hcut, hC2, hc2⟩ := cutF 4 4 rfl (by omega) HC.out.1 HC.out.2.1 h4
                have hto := cutT (A := A') 4 4 rfl (by omega) HC.out.2.1 h4
                have h44 : (l'.take 4).length = 4 := by rw [List.length_take]; omega
                have HLO := Aside0.mk (rlow4_calls (w := wr) (c := c') (Kd.C_take HC.out.1 h4) (by have := HC.out.2.1; omega) (HY.out.take 4) h44)
                have HC2 := Aside0.mk (And.intro hC2 hc2)
                have HX := HXF.out
                unfold word4 at HX
                rw [if_pos h4] at HX
                have HXF2 := Aside0.mk HX
                have HDL := Aside0.mk (show (l'.drop 4).length ≤ 140737488355328 by rw [List.length_drop]; have := HC.out.2.2.2; omega)
                clear hC2 hc2 HX HXF h44 h4
                generalize lowT (l'.take 4) = x4 at *
                generalize l'.drop 4 = l2 at *
                go_wp2_with (first
                  | (go_at_call 45; (with_reducible refine HLO.out.mono ?_); rintro e w5 ⟨rfl, hd⟩; have HB5 := Aside0.mk (below_step HB.out hd.below); have HC5 := Aside0.mk (Kd.C_below HC2.out.1 hd.below); clear hd)
                  | (go_at_call 46; (with_reducible refine (manometerref03_left.calls _ _ _ _ (lrot23 _)).mono ?_); rintro e w7 ⟨rfl, hd⟩; have HB7 := Aside0.mk (below_step HB5.out hd.below); have HC7 := Aside0.mk (Kd.C_below HC5.out hd.below); clear hd))
                go_loopg [3, 105] (l2.length + 1) (fun kq v4 v105 wq => ∃ (j : Nat), v4 = .int .u64 (bytesT (IntKind.u64.wrap (IntKind.u64.wrap (rotT (Go.bits .xor .u64 h' (IntKind.u64.wrap (x4 * 11400714785074694791))) 23 * 14029467366897019727) + 1609587929392839161)) l2 j) ∧ v105 = .int .i64 j ∧ Aside0 (kq + j = l2.length + 1 ∧ j ≤ l2.length) ∧ Aside0 ((Kd.int .u8).C wq A2 l2.length l2) ∧ Aside0 (Below w.heap.size w wq))
                case atStart => exact ⟨0, rfl, rfl, ⟨by omega⟩, HC7, HB7⟩
                case round =>
                  obtain ⟨j, rfl, rfl, HJ, HCq, HBq⟩ := hrel
                  cases gk with
                  | zero => have := HJ.out; omega
                  | succ k2 =>
                  by_cases hlt : j < l2.length
                  · have hj0 : (0 : Int) ≤ (j : Int) := by omega
                    have hj1 : (j : Int) < (l2.length : Int) := by omega
                    obtain ⟨ad, hA, y0⟩ := Kd.at_int HCq.out (j : Int) hj0 hj1
                    simp only [Int.toNat_natCast] at y0
                    have HAE := Aside0.mk hA
                    subst hA
                    go_wp2_with (go_at_call 46; (with_reducible refine (manometerref03_left.calls _ _ _ _ (lrot11 _)).mono ?_); rintro e w8 ⟨rfl, hd⟩; have HB8 := Aside0.mk (below_step HBq.out hd.below); have HC8 := Aside0.mk (Kd.C_below HCq.out hd.below); clear hd)
                    go_roundg k2
                    case measure => omega
                    case rel => exact ⟨j + 1, rfl, by first | rfl | (simp; done) | (rw [wrap_id (n := (j : Int) + 1) (by omega) (by have := HDL.out; omega)]; first | rfl | (simp; done)), ⟨by have := HJ.out; omega⟩, HC8, HB8⟩
                  · have hj : j = l2.length := by have := HJ.out; omega
                    subst hj
                    go_wp2_with (fail)
                    go_ret
                    exact ⟨by rw [← HXF2.out]; rfl, HBq.out⟩
              · have hg4 : ¬ (l'.length : Int) ≥ 4 := by omega
                have HX := HXF.out
                unfold word4 at HX
                rw [if_neg h4] at HX
                have HXF2 := Aside0.mk HX
                have HC7 := Aside0.mk HC.out.1
                have HB7 := HB
                have HDL := Aside0.mk (show l'.length ≤ 140737488355328 from HC.out.2.2.2)
                have HC2 := Aside0.mk (And.intro HC.out.1 HC.out.2.1)
                clear HX HXF h4 HC HB
                go_wp2_with (fail)
                go_loopg [3, 105] (l'.length + 1) (fun kq v4 v105 wq => ∃ (j : Nat), v4 = .int .u64 (bytesT h' l' j) ∧ v105 = .int .i64 j ∧ Aside0 (kq + j = l'.length + 1 ∧ j ≤ l'.length) ∧ Aside0 ((Kd.int .u8).C wq A' l'.length l') ∧ Aside0 (Below w.heap.size w wq))
                case atStart => exact ⟨0, rfl, rfl, ⟨by omega⟩, HC7, HB7⟩
                case round =>
                  obtain ⟨j, rfl, rfl, HJ, HCq, HBq⟩ := hrel
                  cases gk with
                  | zero => have := HJ.out; omega
                  | succ k2 =>
                  by_cases hlt : j < l'.length
                  · have hj0 : (0 : Int) ≤ (j : Int) := by omega
                    have hj1 : (j : Int) < (l'.length : Int) := by omega
                    obtain ⟨ad, hA, y0⟩ := Kd.at_int HCq.out (j : Int) hj0 hj1
                    simp only [Int.toNat_natCast] at y0
                    have HAE := Aside0.mk hA
                    subst hA
                    go_wp2_with (go_at_call 46; (with_reducible refine (manometerref03_left.calls _ _ _ _ (lrot11 _)).mono ?_); rintro e w8 ⟨rfl, hd⟩; have HB8 := Aside0.mk (below_step HBq.out hd.below); have HC8 := Aside0.mk (Kd.C_below HCq.out hd.below); clear hd)
                    go_roundg k2
                    case measure => omega
                    case rel => exact ⟨j + 1, rfl, by first | rfl | (simp; done) | (rw [wrap_id (n := (j : Int) + 1) (by omega) (by have := HDL.out; omega)]; first | rfl | (simp; done)), ⟨by have := HJ.out; omega⟩, HC8, HB8⟩
                  · have hj : j = l'.length := by have := HJ.out; omega
                    subst hj
                    go_wp2_with (fail)
                    go_ret
                    exact ⟨by rw [← HXF2.out]; rfl, HBq.out⟩
theorem xx_calls (A : Option Addr) (c : Nat) (l : List Int) (w : World) (hr : (Kd.int .u8).C w A l.length l) (hc : l.length ≤ c) (hlen : l.length ≤ 140737488355328) :
    Calls Try.prog 30 #[.slice A l.length c] w fun e w' => e = .returned (.int .u64 (xx l)) ∧ Below w.heap.size w w' := by
  by_cases h : 32 ≤ l.length
  · exact xx_great A c l w hr hc hlen h
  · exact xx_small A c l w hr hc hlen h
theorem yy_calls (A : Option Addr) (c : Nat) (l : List Int) (w : World) (hr : (Kd.int .u8).C w A l.length l) (hc : l.length ≤ c) (hlen : l.length ≤ 140737488355328) (hby : Bytes l) :
    Calls Try.prog 34 #[.slice A l.length c] w fun e w' => e = .returned (.int .u64 (xx l)) ∧ Below w.heap.size w w' := by
  by_cases h : 32 ≤ l.length
  · exact yy_great A c l w hr hc hlen hby h
  · exact yy_small A c l w hr hc hlen hby h
end Go.Proofs.Ytibilnohnildcaa.R
