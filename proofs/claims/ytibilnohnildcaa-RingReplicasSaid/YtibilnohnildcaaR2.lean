/- The sum of a text by hand: the walk of hash.XX. -/
import Derived.Test.YtibilnohnildcaaR1
namespace Go.Proofs.Ytibilnohnildcaa.R
open Go.RowKit Go.Proofs.Ytibilnohnildcaa.Q Go.Proofs.YtibilnohnildcaaW.PrintWords Go.Proofs.YtibilnohnildcaaW.PrintLast Go.Proofs.YtibilnohnildcaaW.PrintMore
set_option linter.unusedVariables false
set_option linter.unusedSimpArgs false
section
variable {w : World} {A : Option Addr} {c : Nat} {l : List Int}
theorem cutF (j : Int) (m : Nat) (hj : j.toNat = m) (h0 : 0 ≤ j) (hC : (Kd.int .u8).C w A l.length l) (hc : l.length ≤ c) (hm : m ≤ l.length) : ∃ A2 c2, (∀ W : World, (Instr.slice 59 (.slice A l.length c) (some (.int .i64 j)) none none).run Try.prog W = .ok (.slice A2 (l.drop m).length c2) W) ∧ (Kd.int .u8).C w A2 (l.drop m).length (l.drop m) ∧ (l.drop m).length ≤ c2 := by
  obtain ⟨i5, hi5, hz⟩ := Option.map_eq_some_iff.1 info5
  have hs : i5.size = 1 := by injection hz with _ hz; injection hz with hz _
  subst hj
  refine ⟨_, c - j.toNat, fun W => ?_, Kd.C_drop hC hm hc, by rw [List.length_drop]; omega⟩
  rw [cut_from (P := Try.prog) 59 5 .i64 Try.underlying59 hi5 1 hs A l.length c j h0 (by omega) W, List.length_drop]
  rfl
theorem cutT (j : Int) (m : Nat) (hj : j.toNat = m) (h0 : 0 ≤ j) (hc : l.length ≤ c) (hm : m ≤ l.length) : ∀ W : World, (Instr.slice 59 (.slice A l.length c) none (some (.int .i64 j)) none).run Try.prog W = .ok (.slice A m c) W := by
  obtain ⟨i5, hi5, hz⟩ := Option.map_eq_some_iff.1 info5
  intro W
  rw [cut_to (P := Try.prog) 59 5 .i64 Try.underlying59 hi5 A l.length c j h0 (by omega) hc W, hj]
theorem cutM (lo hi : Int) (m n : Nat) (hl : lo.toNat = m) (hh : hi.toNat = n) (h0 : 0 ≤ lo) (h1 : lo ≤ hi) (h2 : n ≤ l.length) (hC : (Kd.int .u8).C w A l.length l) (hc : l.length ≤ c) : ∃ A2 c2, (∀ W : World, (Instr.slice 59 (.slice A l.length c) (some (.int .i64 lo)) (some (.int .i64 hi)) none).run Try.prog W = .ok (.slice A2 (n - m) c2) W) ∧ (Kd.int .u8).C w A2 ((l.take n).drop m).length ((l.take n).drop m) ∧ ((l.take n).drop m).length ≤ c2 := by
  obtain ⟨i5, hi5, hz⟩ := Option.map_eq_some_iff.1 info5
  have hs : i5.size = 1 := by injection hz with _ hz; injection hz with hz _
  subst hl hh
  refine ⟨_, c - lo.toNat, fun W => ?_, Kd.C_mid hC (by omega) h2 hc, by rw [List.length_drop, List.length_take]; omega⟩
  rw [cut_mid (P := Try.prog) 59 5 .i64 .i64 Try.underlying59 hi5 1 hs A l.length c lo hi h0 h1 (by omega) hc W]
  rfl
theorem low8_calls (hC : (Kd.int .u8).C w A l.length l) (hc : l.length ≤ c) (h : l.length = 8) : Calls Try.prog 40 #[.slice A 8 c] w fun e w' => e = .returned (.int .u64 (lowT l)) ∧ Drawn0 w w' := h ▸ hash_low.calls 10 A c l (lowT l) w hC hc (low8 h)
theorem low4_calls (hC : (Kd.int .u8).C w A l.length l) (hc : l.length ≤ c) (h : l.length = 4) : Calls Try.prog 40 #[.slice A 4 c] w fun e w' => e = .returned (.int .u64 (lowT l)) ∧ Drawn0 w w' := h ▸ hash_low.calls 10 A c l (lowT l) w hC hc (low4 h)
end
theorem lanes_len (cs l : List Int) : ∀ i, (lanes cs l i).length = cs.length
  | 0 => rfl
  | i + 1 => by unfold lanes; rw [List.length_set, lanes_len cs l i]
/-- Four words in memory. -/
def Four (w : World) (F : Nat) (cs : List Int) : Prop := cs.length = 4 ∧ w.heap[F]? = some (.cells (cs.map (Value.int .u64)).toArray 68 (0, 0))
theorem Four.cell {w : World} {F : Nat} {cs : List Int} (h : Four w F cs) {i : Nat} (hi : i < 4) : w.cell? ⟨F, i, none⟩ = some (.int .u64 (cs.getD i 0)) := by
  refine (blk_cell h.2 i).trans ?_
  have := h.1
  rw [List.getElem?_toArray, List.getElem?_map, List.getD_eq_getElem?_getD, List.getElem?_eq_getElem (by omega)]
  rfl
theorem Four.frozen {w : World} {F : Nat} {cs : List Int} (h : Four w F cs) (i : Nat) : w.frozen? ⟨F, i, none⟩ = false := blk_frozen h.2 i
theorem Four.below {w w' : World} {F : Nat} {cs : List Int} (h : Four w F cs) (hb : Below w.heap.size w w') : Four w' F cs := ⟨h.1, (hb.block F (blk_lt h.2)).trans h.2⟩
theorem Four.set {w : World} {F : Nat} {cs : List Int} (h : Four w F cs) (i : Nat) (y : Int) : Four (w.setCell ⟨F, i, none⟩ (.int .u64 y)) F (cs.set i y) :=
  ⟨by rw [List.length_set]; exact h.1, blk_put h.2 i _ (by simp [List.map_set])⟩
set_option maxHeartbeats 4000000 in
set_option maxRecDepth 100000 in
theorem xx_small (A : Option Addr) (c : Nat) (l : List Int) (w : World) (hr : (Kd.int .u8).C w A l.length l) (hc : l.length ≤ c) (hlen : l.length ≤ 140737488355328) (h32 : ¬ 32 ≤ l.length) :
    Calls Try.prog 30 #[.slice A l.length c] w fun e w' => e = .returned (.int .u64 (xx l)) ∧ Below w.heap.size w w' := by
  have HC0 := Aside0.mk (show (Kd.int .u8).C w A l.length l ∧ l.length ≤ c ∧ l.length < l.length + 1 ∧ l.length ≤ 140737488355328 from ⟨hr, hc, by omega, hlen⟩)
  have HB0 := Aside0.mk (Below.refl w.heap.size w)
  have hge : ¬ (l.length : Int) ≥ 32 := by omega
  have hxx := xx_small_eq h32
  rw [tail_eq] at hxx
  generalize xx l = r at *
  obtain ⟨pF, hpF⟩ : ∃ p, words8 (l.length + 1) (IntKind.u64.wrap (2870177450012600261 + (l.length : Int))) l = p := ⟨_, rfl⟩
  have HPF := Aside0.mk hpF
  rw [hpF] at hxx
  have HXF := Aside0.mk hxx.symm
  clear hxx hpF hr hc hlen h32
  go_enter Try.func30, Try.ntmps30
  go_wp2_with (fail)
  go_loopg [0, 4] (l.length + 1) (fun kq v0 v4 wr => ∃ (A' : Option Addr) (c' : Nat) (l' : List Int) (h' : Int), v0 = .slice A' l'.length c' ∧ v4 = .int .u64 h' ∧ Aside0 ((Kd.int .u8).C wr A' l'.length l' ∧ l'.length ≤ c' ∧ l'.length < kq ∧ l'.length ≤ 140737488355328) ∧ Aside0 (words8 kq h' l' = pF) ∧ Aside0 (Below w.heap.size w wr))
  case atStart => exact ⟨_, _, l, (IntKind.u64.wrap (2870177450012600261 + (l.length : Int))), rfl, by first | with_reducible rfl | (have := HC0.out.2.2.2; simp [IntKind.wrap, IntKind.bits, IntKind.signed]; omega), HC0, HPF, HB0⟩
  case round =>
    obtain ⟨A', c', l', h', rfl, rfl, HC, HW, HB⟩ := hrel
    clear HPF HC0 HB0
    cases gk with
    | zero => have := HC.out.2.2.1; omega
    | succ k1 =>
    by_cases h8 : 8 ≤ l'.length
    · have hge : (l'.length : Int) ≥ 8 := by omega
      obtain ⟨A2, c2, hcut, hC2, hc2⟩ := cutF 8 8 rfl (by omega) HC.out.1 HC.out.2.1 h8
      have hto := cutT (A := A') 8 8 rfl (by omega) HC.out.2.1 h8
      have h88 : (l'.take 8).length = 8 := by rw [List.length_take]; omega
      have HLO := Aside0.mk (low8_calls (w := wr) (c := c') (Kd.C_take HC.out.1 h8) (by have := HC.out.2.1; omega) h88)
      have HC2 := Aside0.mk (And.intro hC2 hc2)
      have hW := HW.out
      unfold words8 at hW
      rw [if_pos h8] at hW
      have HW2 := Aside0.mk hW
      have hdl : (l'.drop 8).length = l'.length - 8 := List.length_drop
      have HDL := Aside0.mk hdl
      clear hC2 hc2 hW h88 hdl h8
      generalize lowT (l'.take 8) = x8 at *
      generalize l'.drop 8 = l2 at *
      go_wp2_with (first
        | (go_at_call 40; (with_reducible refine HLO.out.mono ?_); rintro e w5 ⟨rfl, hd⟩; have HB5 := Aside0.mk (below_step HB.out hd.below); have HC5 := Aside0.mk (Kd.C_below HC2.out.1 hd.below); clear hd)
        | (go_at_call 39; (with_reducible refine (hash_round.calls _ _ _ _ (rnd_f _ _)).mono ?_); rintro e w6 ⟨rfl, hd⟩; have HB6 := Aside0.mk (below_step HB5.out hd.below); have HC6 := Aside0.mk (Kd.C_below HC5.out hd.below); clear hd)
        | (go_at_call 41; (with_reducible refine (bits_RotateLeft64.calls _ _ _ _ (rot27 _)).mono ?_); rintro e w7 ⟨rfl, hd⟩; have HB7 := Aside0.mk (below_step HB6.out hd.below); have HC7 := Aside0.mk (Kd.C_below HC6.out hd.below); clear hd))
      go_roundg k1
      case measure => omega
      case rel => exact ⟨A2, c2, l2, _, rfl, rfl, ⟨HC7.out, HC2.out.2, by have := HDL.out; have := HC.out.2.2.1; omega, by have := HDL.out; have := HC.out.2.2.2; omega⟩, HW2, HB7⟩
    · have hge : ¬ (l'.length : Int) ≥ 8 := by omega
      have hW := HW.out
      unfold words8 at hW
      rw [if_neg h8] at hW
      obtain rfl := hW
      clear h8 HW
      by_cases h4 : 4 ≤ l'.length
      · have hg4 : (l'.length : Int) ≥ 4 := by omega
        obtain ⟨A2, c2, hcut, hC2, hc2⟩ := cutF 4 4 rfl (by omega) HC.out.1 HC.out.2.1 h4
        have hto := cutT (A := A') 4 4 rfl (by omega) HC.out.2.1 h4
        have h44 : (l'.take 4).length = 4 := by rw [List.length_take]; omega
        have HLO := Aside0.mk (low4_calls (w := wr) (c := c') (Kd.C_take HC.out.1 h4) (by have := HC.out.2.1; omega) h44)
        have HC2 := Aside0.mk (And.intro hC2 hc2)
        have HX := HXF.out
        unfold word4 at HX
        rw [if_pos h4] at HX
        have HXF2 := Aside0.mk HX
        have HDL := Aside0.mk (show (l'.drop 4).length ≤ 140737488355328 by rw [List.length_drop]; have := HC.out.2.2.2; omega)
        clear hC2 hc2 HX HXF h44 h4
        generalize lowT (l'.take 4) = x4 at *
        generalize l'.drop 4 = l2 at *
        go_wp2_with (first
          | (go_at_call 40; (with_reducible refine HLO.out.mono ?_); rintro e w5 ⟨rfl, hd⟩; have HB5 := Aside0.mk (below_step HB.out hd.below); have HC5 := Aside0.mk (Kd.C_below HC2.out.1 hd.below); clear hd)
          | (go_at_call 41; (with_reducible refine (bits_RotateLeft64.calls _ _ _ _ (rot23 _)).mono ?_); rintro e w7 ⟨rfl, hd⟩; have HB7 := Aside0.mk (below_step HB5.out hd.below); have HC7 := Aside0.mk (Kd.C_below HC5.out hd.below); clear hd))
        go_loopg [4, 105] (l2.length + 1) (fun kq v4 v105 wq => ∃ (j : Nat), v4 = .int .u64 (bytesT (IntKind.u64.wrap (IntKind.u64.wrap (rotT (Go.bits .xor .u64 h' (IntKind.u64.wrap (x4 * 11400714785074694791))) 23 * 14029467366897019727) + 1609587929392839161)) l2 j) ∧ v105 = .int .i64 j ∧ Aside0 (kq + j = l2.length + 1 ∧ j ≤ l2.length) ∧ Aside0 ((Kd.int .u8).C wq A2 l2.length l2) ∧ Aside0 (Below w.heap.size w wq))
        case atStart => exact ⟨0, rfl, rfl, ⟨by omega⟩, HC7, HB7⟩
        case round =>
          obtain ⟨j, rfl, rfl, HJ, HCq, HBq⟩ := hrel
          cases gk with
          | zero => have := HJ.out; omega
          | succ k2 =>
          by_cases hlt : j < l2.length
          · have hj0 : (0 : Int) ≤ (j : Int) := by omega
            have hj1 : (j : Int) < (l2.length : Int) := by omega
            obtain ⟨ad, hA, y0⟩ := Kd.at_int HCq.out (j : Int) hj0 hj1
            simp only [Int.toNat_natCast] at y0
            have HAE := Aside0.mk hA
            subst hA
            go_wp2_with (go_at_call 41; (with_reducible refine (bits_RotateLeft64.calls _ _ _ _ (rot11 _)).mono ?_); rintro e w8 ⟨rfl, hd⟩; have HB8 := Aside0.mk (below_step HBq.out hd.below); have HC8 := Aside0.mk (Kd.C_below HCq.out hd.below); clear hd)
            go_roundg k2
            case measure => omega
            case rel => exact ⟨j + 1, rfl, by first | rfl | (simp; done) | (rw [wrap_id (n := (j : Int) + 1) (by omega) (by have := HDL.out; omega)]; first | rfl | (simp; done)), ⟨by have := HJ.out; omega⟩, HC8, HB8⟩
          · have hj : j = l2.length := by have := HJ.out; omega
            subst hj
            go_wp2_with (fail)
            go_ret
            exact ⟨by rw [← HXF2.out]; rfl, HBq.out⟩
      · have hg4 : ¬ (l'.length : Int) ≥ 4 := by omega
        have HX := HXF.out
        unfold word4 at HX
        rw [if_neg h4] at HX
        have HXF2 := Aside0.mk HX
        have HC7 := Aside0.mk HC.out.1
        have HB7 := HB
        have HDL := Aside0.mk (show l'.length ≤ 140737488355328 from HC.out.2.2.2)
        have HC2 := Aside0.mk (And.intro HC.out.1 HC.out.2.1)
        clear HX HXF h4 HC HB
        go_wp2_with (fail)
        go_loopg [4, 105] (l'.length + 1) (fun kq v4 v105 wq => ∃ (j : Nat), v4 = .int .u64 (bytesT h' l' j) ∧ v105 = .int .i64 j ∧ Aside0 (kq + j = l'.length + 1 ∧ j ≤ l'.length) ∧ Aside0 ((Kd.int .u8).C wq A' l'.length l') ∧ Aside0 (Below w.heap.size w wq))
        case atStart => exact ⟨0, rfl, rfl, ⟨by omega⟩, HC7, HB7⟩
        case round =>
          obtain ⟨j, rfl, rfl, HJ, HCq, HBq⟩ := hrel
          cases gk with
          | zero => have := HJ.out; omega
          | succ k2 =>
          by_cases hlt : j < l'.length
          · have hj0 : (0 : Int) ≤ (j : Int) := by omega
            have hj1 : (j : Int) < (l'.length : Int) := by omega
            obtain ⟨ad, hA, y0⟩ := Kd.at_int HCq.out (j : Int) hj0 hj1
            simp only [Int.toNat_natCast] at y0
            have HAE := Aside0.mk hA
            subst hA
            go_wp2_with (go_at_call 41; (with_reducible refine (bits_RotateLeft64.calls _ _ _ _ (rot11 _)).mono ?_); rintro e w8 ⟨rfl, hd⟩; have HB8 := Aside0.mk (below_step HBq.out hd.below); have HC8 := Aside0.mk (Kd.C_below HCq.out hd.below); clear hd)
            go_roundg k2
            case measure => omega
            case rel => exact ⟨j + 1, rfl, by first | rfl | (simp; done) | (rw [wrap_id (n := (j : Int) + 1) (by omega) (by have := HDL.out; omega)]; first | rfl | (simp; done)), ⟨by have := HJ.out; omega⟩, HC8, HB8⟩
          · have hj : j = l'.length := by have := HJ.out; omega
            subst hj
            go_wp2_with (fail)
            go_ret
            exact ⟨by rw [← HXF2.out]; rfl, HBq.out⟩
end Go.Proofs.Ytibilnohnildcaa.R
