/- The network by hand: few. -/
import Derived.Test.YtlnipfmgdkiboaaN12
namespace Go.Proofs.Ytlnipfmgdkiboaa.N
open Go.RowKit Go.Proofs.Ytlnipfmgdkiboaa.Q Go.Proofs.YtlnipfmgdkiboaaW.PrintWords Go.Proofs.YtlnipfmgdkiboaaW.PrintLast Go.Proofs.YtlnipfmgdkiboaaW.PrintMore
set_option linter.unusedVariables false
set_option linter.unusedSimpArgs false
theorem min2_mn (k k' : IntKind) (x y : Int) : Builtin.min2 (.int k x) (.int k' y) = pure (.int k (mn x y)) := by rw [min2_int]; rfl
attribute [local go_sem] min2_mn min_two
/-- Some of a list, from its beginning on. -/
def Some (w : World) (A : Option Addr) (n c : Nat) (e : Ending) (w' : World) : Prop := ∃ m, m ≤ n ∧ m ≤ 120 ∧ e = .returned (.slice A m c) ∧ Below w.heap.size w w'
set_option maxHeartbeats 1000000 in
set_option maxRecDepth 100000 in
theorem few_calls (A : Option Addr) (c : Nat) (l : List S31) (w : World) (hc : l.length ≤ c) (hr : k31.C w A l.length l) (hbd : l.length ≤ 140737488355328) : Calls Try.prog 9 #[.slice A l.length c] w (Some w A l.length c) := by
  have HR := Aside0.mk hr
  clear hr
  generalize hn : l.length = n at *
  clear hn
  go_enter Try.func9, Try.ntmps9
  go_wp2
  go_loopg [3, 10] (n + 1) (fun kq v3 v10 wr => ∃ (a : Int) (j : Nat), v3 = .int .i64 a ∧ v10 = .int .i64 j ∧ Aside0 (kq + j = n + 1 ∧ j ≤ n ∧ j ≤ 120) ∧ Aside0 (Below w.heap.size w wr))
  case atStart => exact ⟨0, 0, rfl, rfl, ⟨by omega⟩, ⟨Below.refl _ _⟩⟩
  case round =>
    obtain ⟨a, j, rfl, rfl, HJ, HB⟩ := hrel
    cases gk with
    | zero => have := HJ.out; omega
    | succ k1 =>
    by_cases hlt : j < n
    · have hi0 : (0 : Int) ≤ (j : Int) := by omega
      have hi1 : (j : Int) < (n : Int) := by omega
      obtain ⟨ad, hA⟩ : ∃ ad, A = some ad := by
        obtain ⟨ad, _, e, _⟩ := Kd.C_get HR.out z31 (j : Int) hi0 hi1
        exact ⟨ad, e⟩
      subst hA
      obtain ⟨ad', A1, c1, hAe, x0, x1, x2, x3, hc1, hd1⟩ := at_T31 (Kd.C_below HR.out HB.out) (j : Int) hi0 hi1
      injection hAe with hAe
      subst hAe
      simp only [Int.toNat_natCast] at x0 x1 x2 x3
      have hxs := (rd_T31 l (j : Int)).f1.size
      generalize rd_T31 l (j : Int) = x at *
      have HD1 := Aside0.mk hd1
      clear hd1
      have HB1 := Aside0.mk (below_alloc HB.out (.cells #[.int .i64 x.f0, .string x.f1, .slice A1 x.f2.length c1, .int .i64 x.f3] 31))
      have HD2 := Aside0.mk (Kd.C_below HD1.out (below_alloc (Below.refl _ _) (.cells #[.int .i64 x.f0, .string x.f1, .slice A1 x.f2.length c1, .int .i64 x.f3] 31)))
      go_wp2
      clear x0 x1 x2 x3 hxs HD1
      generalize wr.alloc (.cells #[.int .i64 x.f0, .string x.f1, .slice A1 x.f2.length c1, .int .i64 x.f3] 31) = wx at *
      have hm1 : x.f2.length ≤ 9223372036854775807 := Kd.C_max HD2.out
      generalize hm : x.f2.length = m at *
      clear hm
      go_loopg [3, 24] (m + 1) (fun kq v3 v24 wr2 => ∃ (a2 : Int) (i : Nat), v3 = .int .i64 a2 ∧ v24 = .int .i64 i ∧ Aside0 (kq + i = m + 1 ∧ i ≤ m) ∧ Aside0 (Below wx.heap.size wx wr2) ∧ Aside0 (Below w.heap.size w wr2))
      case atStart => exact ⟨_, 0, rfl, rfl, ⟨by omega⟩, ⟨Below.refl _ _⟩, HB1⟩
      case round =>
        obtain ⟨a2, i, rfl, rfl, HI, HBx, HB2⟩ := hrel
        cases gk with
        | zero => have := HI.out; omega
        | succ k2 =>
        by_cases hlt2 : i < m
        · have hi2 : (0 : Int) ≤ (i : Int) := by omega
          have hi3 : (i : Int) < (m : Int) := by omega
          obtain ⟨ad2, A3, c3, hAe2, y0, y1, hc3, hd3⟩ := at_T34 (Kd.C_below HD2.out HBx.out) (i : Int) hi2 hi3
          subst hAe2
          simp only [Int.toNat_natCast] at y0 y1
          generalize rd_T34 x.f2 (i : Int) = y at *
          have HBy := fun o => below_alloc HB2.out o
          have HBz := Aside0.mk (fun o => below_alloc HBx.out o)
          clear hd3 HBy
          go_wp2_with (fail)
          · go_ret
            exact ⟨j, Nat.le_of_lt hlt, HJ.out.2.2, rfl, below_alloc HB2.out _⟩
          · go_roundg k2
            case measure => omega
            case rel => exact ⟨_, i + 1, rfl, by first | rfl | (simp; done) | (simp; omega), ⟨by have := HI.out; omega⟩, ⟨HBz.out _⟩, ⟨below_alloc HB2.out _⟩⟩
        · have hj2 : i = m := by have := HI.out; omega
          subst hj2
          go_wp2_with (fail)
          all_goals first
            | (go_roundg k1
               case measure => omega
               case rel => exact ⟨_, j + 1, rfl, by first | rfl | (simp; done) | (simp; omega), ⟨by have := HJ.out; omega⟩, HB2⟩)
            | (go_ret
               exact ⟨j, Nat.le_of_lt hlt, HJ.out.2.2, rfl, HB2.out⟩)
    · have hj : j = n := by have := HJ.out; omega
      subst hj
      go_wp2
      go_ret
      exact ⟨j, Nat.le_refl _, HJ.out.2.2, rfl, HB.out⟩
end Go.Proofs.Ytlnipfmgdkiboaa.N
