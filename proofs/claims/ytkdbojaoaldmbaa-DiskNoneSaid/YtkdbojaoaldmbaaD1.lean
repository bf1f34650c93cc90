/- Walks of the disk by hand: words, and the functions that only look. -/
import Derived.Test.YtkdbojaoaldmbaaX
import Derived.Test.YtkdbojaoaldmbaaProg
import Derived.MapKept
import Derived.Lib.Hide
import Derived.Lib.SmallJoins
namespace Go.Proofs.Ytkdbojaoaldmbaa.D
open Go.RowKit Go.Proofs.YtkdbojaoaldmbaaW.PrintWords Go.Proofs.YtkdbojaoaldmbaaW.PrintLast Go.Proofs.YtkdbojaoaldmbaaW.PrintMore
set_option linter.unusedVariables false
set_option linter.unusedSimpArgs false

/-- What may have changed. -/
structure Chg (S : Nat → Prop) (w w' : World) : Prop where
  os : w'.os = w.os
  tape : w'.tape = w.tape
  output : w'.output = w.output
  size : w.heap.size ≤ w'.heap.size
  block : ∀ k, k < w.heap.size → ¬ S k → w'.heap[k]? = w.heap[k]?
theorem Chg.refl (S : Nat → Prop) (w : World) : Chg S w w := ⟨rfl, rfl, rfl, Nat.le_refl _, fun _ _ _ => rfl⟩
theorem Chg.trans {S T U : Nat → Prop} {w w1 w2 : World} (h1 : Chg S w w1) (h2 : Chg T w1 w2) (hS : ∀ k, k < w.heap.size → S k → U k) (hT : ∀ k, k < w.heap.size → T k → U k) : Chg U w w2 :=
  ⟨h2.os.trans h1.os, h2.tape.trans h1.tape, h2.output.trans h1.output, Nat.le_trans h1.size h2.size, fun k hk hn => (h2.block k (Nat.lt_of_lt_of_le hk h1.size) (fun h => hn (hT k hk h))).trans (h1.block k hk (fun h => hn (hS k hk h)))⟩
theorem Chg.below {S : Nat → Prop} {w w' : World} {B : Nat} (h : Chg S w w') (hB : B ≤ w.heap.size) (hS : ∀ k, S k → B ≤ k) : Below B w w' :=
  ⟨h.os, h.tape, h.output, h.size, fun k hk => h.block k (by omega) (fun hs => by have := hS k hs; omega)⟩
theorem Chg.drewN {S : Nat → Prop} {w w' : World} (h : Chg S w w') (n : Nat) : Chg S w (w'.drewN n) := ⟨h.os, h.tape, h.output, h.size, h.block⟩
theorem Chg.alloc {S : Nat → Prop} {w w' : World} (h : Chg S w w') (o : Obj) : Chg S w (w'.alloc o) := by
  refine ⟨h.os, h.tape, h.output, Nat.le_trans h.size (by show w'.heap.size ≤ (w'.heap.push o).size; simp), fun k hk hn => ?_⟩
  rw [← h.block k hk hn]
  have := h.size
  show (w'.heap.push o)[k]? = _
  rw [Array.getElem?_push, if_neg (by omega)]
theorem blk2 (w : World) (a b : Obj) : ((w.alloc a).alloc b).heap[w.heap.size + 1]? = some b ∧ ((w.alloc a).alloc b).heap[w.heap.size]? = some a := by
  show ((w.heap.push a).push b)[w.heap.size + 1]? = _ ∧ ((w.heap.push a).push b)[w.heap.size]? = _
  constructor
  · rw [Array.getElem?_push, if_pos (by simp)]
  · rw [Array.getElem?_push, if_neg (by simp), Array.getElem?_push, if_pos rfl]
theorem Chg.set {S : Nat → Prop} {w w' : World} (h : Chg S w w') (p : Addr) (v : Value) (hp : S p.block) : Chg S w (w'.setCell p v) := by
  refine ⟨h.os, h.tape, h.output, Nat.le_trans h.size (by simp [World.setCell]), fun k hk hn => ?_⟩
  rw [← h.block k hk hn]
  have : k ≠ p.block := fun e => hn (e ▸ hp)
  simp [World.setCell, Array.getElem?_modify, Ne.symm this]

/-- A disk's cells. -/
def DAt (w : World) (D M : Nat) (room size : Int) : Prop := w.heap[D]? = some (.cells #[.map (some M), .int .i64 room, .int .i64 size] 57 (0, 0))
def nm : ByteArray := ⟨#[102]⟩
/-- The map has just the file 'f'. -/
def MOne (w : World) (M F : Nat) : Prop := ∃ born clk, w.heap[M]? = some (.map #[⟨.string nm, .pointer (some ⟨F, 0, none⟩), born⟩] clk) ∧ born < clk
def MNil (w : World) (M : Nat) : Prop := ∃ clk, w.heap[M]? = some (.map #[] clk)
/-- A file's cells. -/
def FAt (w : World) (F : Nat) (A : Option Addr) (n c : Nat) (lasts : Int) : Prop := w.heap[F]? = some (.cells #[.slice A n c, .int .i64 lasts] 68 (0, 0))
theorem DAt.cells {w : World} {D M : Nat} {room size : Int} (h : DAt w D M room size) : w.cell? ⟨D, 0, none⟩ = some (.map (some M)) ∧ w.cell? ⟨D, 1, none⟩ = some (.int .i64 room) ∧ w.cell? ⟨D, 2, none⟩ = some (.int .i64 size) := by
  unfold DAt at h
  refine ⟨?_, ?_, ?_⟩ <;> simp [World.cell?, h]
theorem FAt.cells {w : World} {F : Nat} {A : Option Addr} {n c : Nat} {lasts : Int} (h : FAt w F A n c lasts) : w.cell? ⟨F, 0, none⟩ = some (.slice A n c) ∧ w.cell? ⟨F, 1, none⟩ = some (.int .i64 lasts) := by
  unfold FAt at h
  refine ⟨?_, ?_⟩ <;> simp [World.cell?, h]
theorem map_ne (M : Nat) (W : World) : (binOp .neq 55 (.map (some M)) (.map none)).run Try.prog W = .ok (.bool true) W := by kernel_rfl
theorem map_ne0 (W : World) : (binOp .neq 55 (.map none) (.map none)).run Try.prog W = .ok (.bool false) W := by kernel_rfl
theorem nm_beq : (nm == nm) = true := by decide
theorem look_one {w : World} {M F : Nat} (h : MOne w M F) : (Instr.lookup 55 (.map (some M)) (.string nm) false).run Try.prog w = .ok (.pointer (some ⟨F, 0, none⟩)) w := by
  obtain ⟨born, clk, h, hbc⟩ := h
  have hc : (Instr.checkKey false 10000 9 (.string nm)).run Try.prog w = .ok () w := MapKept.run_checkKey Try.underlying9 (by simp [MapKept.IsKey]) false 9999
  have hf : Instr.findNow .string (.string nm) [⟨.string nm, .pointer (some ⟨F, 0, none⟩), born⟩] 0 = some (some (0, .pointer (some ⟨F, 0, none⟩))) := by simp [Instr.findNow, Instr.sameNow, nm_beq]
  simp [Instr.lookup, run_underlying Try.underlying55, MapKept.run_getObj_map h, hc, MapKept.run_findKey Try.underlying9 hf, Result.andThen]
theorem look_nil {w : World} {M : Nat} (h : MNil w M) : (Instr.lookup 55 (.map (some M)) (.string nm) false).run Try.prog w = .ok (.pointer none) w := by
  obtain ⟨clk, h⟩ := h
  have hc : (Instr.checkKey true 10000 9 (.string nm)).run Try.prog w = .ok () w := MapKept.run_checkKey Try.underlying9 (by simp [MapKept.IsKey]) true 9999
  have hf : Instr.findNow .string (.string nm) [] 0 = some none := rfl
  have hz : (zeroValue 64).run Try.prog w = .ok (.pointer none) w := by kernel_rfl
  simp [Instr.lookup, run_underlying Try.underlying55, MapKept.run_getObj_map h, hc, MapKept.run_findKey Try.underlying9 hf, Result.andThen, hz]

set_option maxHeartbeats 400000 in
set_option maxRecDepth 100000 in
theorem ok_calls (D M : Nat) (w : World) (h : w.cell? ⟨D, 0, none⟩ = some (.map (some M))) : Calls Try.prog 30 #[.pointer (some ⟨D, 0, none⟩)] w fun e w' => e = .returned (.bool true) ∧ w' = w := by
  have hne := map_ne M
  go_enter Try.func30, Try.ntmps30
  go_wp2
  go_ret
  exact ⟨rfl, rfl⟩
set_option maxHeartbeats 400000 in
set_option maxRecDepth 100000 in
theorem find_calls (D M F : Nat) (room size : Int) (w : World) (h : DAt w D M room size) (hM : MOne w M F) : Calls Try.prog 33 #[.pointer (some ⟨D, 0, none⟩), .string nm] w fun e w' => e = .returned (.tuple #[.pointer (some ⟨F, 0, none⟩), .int .i64 0]) ∧ w' = w := by
  obtain ⟨c0, c1, c2⟩ := h.cells
  have hl := look_one hM
  go_enter Try.func33, Try.ntmps33
  go_wp2_with (go_at_call 30; (with_reducible refine (ok_calls D M w c0).mono ?_); rintro e w' ⟨rfl, rfl⟩)
  go_ret2
  exact ⟨rfl, rfl⟩
end Go.Proofs.Ytkdbojaoaldmbaa.D
