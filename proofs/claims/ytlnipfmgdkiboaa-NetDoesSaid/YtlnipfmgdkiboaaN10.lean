/- The network by hand: the iterator over a tenant's letters. -/
import Derived.Test.YtlnipfmgdkiboaaNM
import Derived.RangeFuncBox
import Derived.RangeFuncLeaves
import Derived.RangeFuncNested
import Derived.RangeFuncBound
import Derived.RangeFuncCalls
import Derived.Shelf.Abstract
import Derived.OwnWalkIn
import Derived.TacticsInMore
import Derived.LoopNIn
import Derived.LoopIn
namespace Go.Proofs.Ytlnipfmgdkiboaa.N
open Go.RowKit Go.Shelf Go.Proofs.Ytlnipfmgdkiboaa.Q Go.Proofs.YtlnipfmgdkiboaaW.PrintWords Go.Proofs.YtlnipfmgdkiboaaW.PrintLast Go.Proofs.YtlnipfmgdkiboaaW.PrintMore
attribute [local go_sem] Oper.semAt_some
set_option linter.unusedVariables false
set_option linter.unusedSimpArgs false
/-- A letter as it lies in memory. -/
structure RawL where
  t : Int
  a : Option Addr
  n : Nat
  c : Nat
/-- What the first rounds have told. -/
def upto {α : Type} (f : Nat → α) (k : Nat) : List α := (List.range k).map f
theorem upto_succ {α : Type} (f : Nat → α) (k : Nat) : upto f (k + 1) = upto f k ++ [f k] := by simp [upto, List.range_succ]
theorem upto_length {α : Type} (f : Nat → α) (k : Nat) : (upto f k).length = k := by simp [upto]
def encR (x : Nat × RawL) : Array Value := #[.int .i64 (x.1 : Int), .agg #[.int .i64 x.2.t, .slice x.2.a x.2.n x.2.c]]
set_option maxRecDepth 100000 in
set_option maxHeartbeats 2000000 in
theorem all1_in (F : Fence) (n : Nat) (h8 : F.fn 30) (hro : F.round = none) (hn : 1 ≤ n) (l Bs n₀ b len cap : Nat) (zs : Nat → RawL) (hreach : len * 8 ≤ 140737488351232) (hb : b < n₀) (J Jx : List (Nat × RawL) → World → Prop)
    (hJb : ∀ pre W o, J pre W → J pre (W.alloc o))
    (hY : ∀ pre x W, J pre W → pre.length < len → YieldAt F (n - 1) Try.prog l (encR x) W fun e W' =>
      (e = .returned (.bool true) ∧ J (pre ++ [x]) W' ∧ Below n₀ W W') ∨ (e = .returned (.bool false) ∧ Jx (pre ++ [x]) W'))
    (W : World) (hn0 : n₀ ≤ W.heap.size) (hBs : W.cell? ⟨Bs, 0, none⟩ = some (.slice (some ⟨b, 0, none⟩) len cap)) (hc0 : ∀ j, j < len → W.cell? ⟨b, j * 2, none⟩ = some (.int .i64 (zs j).t)) (hc1 : ∀ j, j < len → W.cell? ⟨b, j * 2 + 1, none⟩ = some (.slice (zs j).a (zs j).n (zs j).c)) (h0 : J [] W) :
    CallsIn F n Try.prog 30 #[.func (.yield l) #[] #[], .pointer (some ⟨Bs, 0, none⟩)] W fun e W' => (∃ v, e = .returned v) ∧
      ((∃ ys, ys = upto (fun j => (j, zs j)) len ∧ J ys W') ∨ (∃ pre, (∃ k, k ≤ len ∧ pre = upto (fun j => (j, zs j)) k) ∧ Jx pre W')) := by
  refine callsIn_of_wp Try.func30 rfl h8 ?_ hro
  simp only [Try.ntmps30, List.size_toArray, List.length_cons, List.length_nil, Nat.reduceAdd, Nat.reduceSub, Array.replicate_succ, Array.replicate_zero, List.push_toArray, List.append_toArray, List.nil_append, List.cons_append]
  gi_wp2
  gi_loopw [7] (fun i wr => ∃ k : Nat, k ≤ len ∧ i = .int .i64 k ∧ J (upto (fun j => (j, zs j)) k) wr ∧ Below n₀ W wr)
    (fun i _ => len - (intOf i).toNat)
  case atStart => exact ⟨0, Nat.zero_le _, rfl, h0, Below.refl _ _⟩
  case round =>
    obtain ⟨k, hk, rfl, hJw, hnx⟩ := hrel
    by_cases hlt : k < len
    · have x0 : wr.cell? ⟨b, k * 2, none⟩ = some (.int .i64 (zs k).t) := (hnx.cell (p := ⟨b, k * 2, none⟩) hb).trans (hc0 k hlt)
      have x1 : wr.cell? ⟨b, k * 2 + 1, none⟩ = some (.slice (zs k).a (zs k).n (zs k).c) := (hnx.cell (p := ⟨b, k * 2 + 1, none⟩) hb).trans (hc1 k hlt)
      have HJ := Aside0.mk hJw
      have HY := Aside0.mk hY
      clear hJw hY hc0 hc1 h0
      obtain ⟨fn, tmps, assign, body, hy, hR⟩ := HY.out _ (k, zs k) (wr.alloc (.cells #[.int .i64 (zs k).t, .slice (zs k).a (zs k).n (zs k).c] 34)) (hJb _ _ _ HJ.out) (by rw [upto_length]; exact hlt)
      dsimp only [encR] at hy
      have HR := Aside0.mk hR
      clear hR
      gi_wp2
      refine HR.out.mono ?_
      rintro e W3 (⟨rfl, hJ3, hk3⟩ | ⟨rfl, hJx3⟩)
      · have HJ3 := Aside0.mk (show J (upto (fun j => (j, zs j)) (k + 1)) W3 by rw [upto_succ]; exact hJ3)
        clear hJ3 hy HR
        gi_wp2
        go_roundw
        case rel => exact ⟨k + 1, by omega, by simp, HJ3.out, hnx.trans ((below_alloc (Below.refl _ _) _ |>.mono (Nat.le_trans hn0 hnx.size)).trans hk3)⟩
        case measure => simp [intOf]; omega
      · have HJ3 := Aside0.mk hJx3
        clear hJx3 hy HR
        gi_wp2
        refine bodyPost_ret (results_none rfl _ _ _) rfl ?_
        exact ⟨⟨_, rfl⟩, .inr ⟨_, ⟨k + 1, by omega, (upto_succ _ _).symm⟩, HJ3.out⟩⟩
    · obtain rfl : k = len := by omega
      gi_wp2
      go_end0
      exact ⟨⟨_, rfl⟩, .inl ⟨_, rfl, hJw⟩⟩
set_option maxRecDepth 100000 in
set_option maxHeartbeats 1000000 in
/-- .. where there is none. -/
theorem all1_none (F : Fence) (n : Nat) (h8 : F.fn 30) (hro : F.round = none) (l Bs cap : Nat) (A : Option Addr) (J : List (Nat × RawL) → World → Prop) (W : World) (hBs : W.cell? ⟨Bs, 0, none⟩ = some (.slice A 0 cap)) (h0 : J [] W) :
    CallsIn F n Try.prog 30 #[.func (.yield l) #[] #[], .pointer (some ⟨Bs, 0, none⟩)] W fun e W' => (∃ v, e = .returned v) ∧ J [] W' := by
  refine callsIn_of_wp Try.func30 rfl h8 ?_ hro
  simp only [Try.ntmps30, List.size_toArray, List.length_cons, List.length_nil, Nat.reduceAdd, Nat.reduceSub, Array.replicate_succ, Array.replicate_zero, List.push_toArray, List.append_toArray, List.nil_append, List.cons_append]
  gi_wp2
  gi_loopw [7] (fun i wr => i = .int .i64 0 ∧ J [] wr) (fun _ _ => 0)
  case atStart => exact ⟨rfl, h0⟩
  case round =>
    obtain ⟨rfl, hJs⟩ := hrel
    gi_wp2
    go_end0
    exact ⟨⟨_, rfl⟩, hJs⟩
/-- A row of letters in memory. -/
def RawRow (W : World) (v : Value) (len : Nat) (zs : Nat → RawL) (n₀ : Nat) : Prop :=
  ∃ A cap, v = .slice A len cap ∧ len * 8 ≤ 140737488351232 ∧ (0 < len → ∃ b, A = some ⟨b, 0, none⟩ ∧ b < n₀ ∧ (∀ j, j < len → W.cell? ⟨b, j * 2, none⟩ = some (.int .i64 (zs j).t)) ∧ ∀ j, j < len → W.cell? ⟨b, j * 2 + 1, none⟩ = some (.slice (zs j).a (zs j).n (zs j).c))
theorem RawRow.below {W W' : World} {v : Value} {len : Nat} {zs : Nat → RawL} {n₀ : Nat} (h : RawRow W v len zs n₀) (hb : Below n₀ W W') : RawRow W' v len zs n₀ := by
  obtain ⟨A, cap, hv, hl, h⟩ := h
  refine ⟨A, cap, hv, hl, fun h0 => ?_⟩
  obtain ⟨b, hA, hlt, h1, h2⟩ := h h0
  exact ⟨b, hA, hlt, fun j hj => (hb.cell (p := ⟨b, j * 2, none⟩) hlt).trans (h1 j hj), fun j hj => (hb.cell (p := ⟨b, j * 2 + 1, none⟩) hlt).trans (h2 j hj)⟩
/-- The iterator tells the letters of the row that its box holds, one by one with their numbers, or the first of them. -/
theorem all_stops (F : Fence) (n : Nat) (h8 : F.fn 30) (hro : F.round = none) (hn : 1 ≤ n) (Bs n₀ len : Nat) (v : Value) (zs : Nat → RawL) (w : World) (hn₀ : n₀ ≤ w.heap.size) (hBs : Bs < n₀)
    (hc : w.cell? ⟨Bs, 0, none⟩ = some v) (hI : RawRow w v len zs n₀) :
    SeqStopsK F n Try.prog 30 #[.pointer (some ⟨Bs, 0, none⟩)] encR (Below n₀) (fun ys => ys = upto (fun j => (j, zs j)) len)
      (fun pre => ∃ k, k ≤ len ∧ pre = upto (fun j => (j, zs j)) k) len w := fun l J Jx W hW hJ _ hY h0 => by
  have hbn : Below n₀ w W := hW.mono hn₀
  have hc' := (hbn.cell (p := ⟨Bs, 0, none⟩) hBs).trans hc
  have hI' := hI.below hbn
  have hsz : n₀ ≤ W.heap.size := Nat.le_trans hn₀ hW.size
  obtain ⟨A, cap, rfl, hl, h⟩ := hI'
  rcases Nat.eq_zero_or_pos len with rfl | hp
  · exact (all1_none F n h8 hro l Bs cap A J W hc' h0).mono fun e W' ⟨he, hj⟩ => ⟨he, .inl ⟨_, rfl, hj⟩⟩
  · obtain ⟨b, rfl, hlt, h1, h2⟩ := h hp
    refine all1_in F n h8 hro hn l Bs n₀ b len cap zs hl hlt J Jx (fun pre W2 o hj => ?_) hY W hsz hc' h1 h2 h0
    have b := below_alloc (Below.refl W2.heap.size W2) o
    exact hJ pre W2 _ none hj ⟨b.os, b.tape, b.output, b.size, fun k hk _ => b.block k hk⟩ (fun r e => by cases e)
end Go.Proofs.Ytlnipfmgdkiboaa.N
