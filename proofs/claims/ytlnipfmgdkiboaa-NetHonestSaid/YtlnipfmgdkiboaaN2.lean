/- The network by hand: what it is, and the functions that only look. -/
import Derived.Test.YtlnipfmgdkiboaaQ1
import Derived.Test.YtlnipfmgdkiboaaN1
import Derived.Maps.Own
import Derived.Lib.SliceRun
import Derived.LoopN
namespace Go.Proofs.Ytlnipfmgdkiboaa.N
open Go.RowKit Go.Proofs.Ytlnipfmgdkiboaa.Q Go.Proofs.YtlnipfmgdkiboaaW.PrintWords Go.Proofs.YtlnipfmgdkiboaaW.PrintLast Go.Proofs.YtlnipfmgdkiboaaW.PrintMore
set_option linter.unusedVariables false
set_option linter.unusedSimpArgs false

/-- What may have changed. -/
structure Chg (S : Nat → Prop) (w w' : World) : Prop where
  os : w'.os = w.os
  tape : w'.tape = w.tape
  output : w'.output = w.output
  size : w.heap.size ≤ w'.heap.size
  block : ∀ k, k < w.heap.size → ¬ S k → w'.heap[k]? = w.heap[k]?
  five : ∀ (k : Nat) (cells : Array Value), w.heap[k]? = some (.cells cells 5 (0, 0)) → w'.heap[k]? = w.heap[k]?
theorem Chg.refl (S : Nat → Prop) (w : World) : Chg S w w := ⟨rfl, rfl, rfl, Nat.le_refl _, fun _ _ _ => rfl, fun _ _ _ => rfl⟩
theorem Chg.trans {S T U : Nat → Prop} {w w1 w2 : World} (h1 : Chg S w w1) (h2 : Chg T w1 w2) (hS : ∀ k, k < w.heap.size → S k → U k) (hT : ∀ k, k < w.heap.size → T k → U k) : Chg U w w2 :=
  ⟨h2.os.trans h1.os, h2.tape.trans h1.tape, h2.output.trans h1.output, Nat.le_trans h1.size h2.size, fun k hk hn => (h2.block k (Nat.lt_of_lt_of_le hk h1.size) (fun h => hn (hT k hk h))).trans (h1.block k hk (fun h => hn (hS k hk h))), fun k cells hk => (h2.five k cells ((h1.five k cells hk).trans hk)).trans (h1.five k cells hk)⟩
theorem Chg.of_below {w w' : World} (S : Nat → Prop) (h : Below w.heap.size w w') : Chg S w w' := ⟨h.os, h.tape, h.output, h.size, fun k hk _ => h.block k hk, fun k cells hk => h.block k (Array.getElem?_eq_some_iff.1 hk).1⟩
theorem Chg.of_grown {w w' : World} {row : Option Nat} (h : w.grownBy w' row) (hty : ∀ (k : Nat) (cells : Array Value), some k = row → w.heap[k]? = some (.cells cells 5 (0, 0)) → False) : Chg (fun k => some k = row) w w' := ⟨h.os, h.tape, h.output, h.size, fun k hk hn => h.block k hk hn, fun k cells hk => h.block k (Array.getElem?_eq_some_iff.1 hk).1 (fun e => hty k cells e hk)⟩
theorem Chg.onto {S : Nat → Prop} {w w' w'' : World} {B : Nat} (hb : Below B w w') (hB : B ≤ w.heap.size) (hc : Chg S w' w'') (hS : ∀ k, S k → B ≤ k) : Below B w w'' := by
  obtain ⟨h1, h2, h3, h4, h5⟩ := hb
  exact ⟨hc.os.trans h1, hc.tape.trans h2, hc.output.trans h3, Nat.le_trans h4 hc.size, fun k hk => (hc.block k (Nat.lt_of_lt_of_le hk (Nat.le_trans hB h4)) (fun hs => by have := hS k hs; omega)).trans (h5 k hk)⟩
theorem heap_lt {w : World} {k : Nat} {o : Obj} (h : w.heap[k]? = some o) : k < w.heap.size := (Array.getElem?_eq_some_iff.1 h).1

/-- A network: its room, its letters by tenants, and whose its blocks are. -/
structure NetG (w : World) (N M : Nat) (room : Int) (B : Nat) (own : Nat → Option ByteArray) (G : ByteArray → Option Value) (Q : ByteArray → List S34) : Prop where
  cells : w.heap[N]? = some (.cells #[.int .i64 room, .map (some M)] 62 (0, 0))
  map : MapF w M G
  rows : ∀ s, k34.R 34 w B (fun k => own k = some s) ((G s).getD (.slice none 0 0)) (Q s)
  room1 : 1 ≤ room
  room2 : room ≤ 256
  few : ∀ s, ((Q s).length : Int) ≤ room
  baseN : B ≤ N
  baseM : B ≤ M
  lt : ∀ k s, own k = some s → B ≤ k ∧ k < w.heap.size
  notN : own N = none
  notM : own M = none
  short : ∀ s x, x ∈ Q s → x.f1.length < 140737488355328
theorem NetG.ne {w : World} {N M : Nat} {room : Int} {B : Nat} {own : Nat → Option ByteArray} {G : ByteArray → Option Value} {Q : ByteArray → List S34} (h : NetG w N M room B own G Q) : N ≠ M := fun e => by
  obtain ⟨ma, clk, hb, _⟩ := h.map
  have := h.cells
  rw [e, hb] at this
  cases this
theorem NetG.move {w w' : World} {N M : Nat} {room : Int} {B : Nat} {own : Nat → Option ByteArray} {G : ByteArray → Option Value} {Q : ByteArray → List S34} (h : NetG w N M room B own G Q) (hs : w.heap.size ≤ w'.heap.size)
    (hm : ∀ k, k < w.heap.size → (k = N ∨ k = M ∨ own k ≠ none) → w'.heap[k]? = w.heap[k]?) : NetG w' N M room B own G Q where
  cells := (hm N (heap_lt h.cells) (.inl rfl)).trans h.cells
  map := h.map.move (hm M h.map.lt (.inr (.inl rfl)))
  rows := fun s => Kd.R_step (h.rows s) (fun k hk hlt => hm k hlt (.inr (.inr (by rw [hk]; simp))))
  room1 := h.room1
  room2 := h.room2
  few := h.few
  baseN := h.baseN
  baseM := h.baseM
  lt := fun k s hk => ⟨(h.lt k s hk).1, Nat.lt_of_lt_of_le (h.lt k s hk).2 hs⟩
  notN := h.notN
  notM := h.notM
  short := h.short
theorem NetG.below {w w' : World} {N M : Nat} {room : Int} {B : Nat} {own : Nat → Option ByteArray} {G : ByteArray → Option Value} {Q : ByteArray → List S34} (h : NetG w N M room B own G Q) (hb : Below w.heap.size w w') : NetG w' N M room B own G Q :=
  h.move hb.size (fun k hk _ => hb.block k hk)
theorem NetG.cell {w : World} {N M : Nat} {room : Int} {B : Nat} {own : Nat → Option ByteArray} {G : ByteArray → Option Value} {Q : ByteArray → List S34} (h : NetG w N M room B own G Q) : w.cell? ⟨N, 0, none⟩ = some (.int .i64 room) ∧ w.cell? ⟨N, 1, none⟩ = some (.map (some M)) := by
  have hc := h.cells
  refine ⟨?_, ?_⟩ <;> simp [World.cell?, hc]
theorem zero29 (w : World) : (zeroValue 29).run Try.prog w = .ok (.slice none 0 0) w := by kernel_rfl
theorem NetG.look {w : World} {N M : Nat} {room : Int} {B : Nat} {own : Nat → Option ByteArray} {G : ByteArray → Option Value} {Q : ByteArray → List S34} (h : NetG w N M room B own G Q) (s : ByteArray) :
    (Instr.lookup 60 (.map (some M)) (.string s) false).run Try.prog w = .ok ((G s).getD (.slice none 0 0)) w := h.map.look Try.underlying60 Try.underlying9 (zero29 w) s
theorem map_ne (M : Nat) (W : World) : (binOp .neq 60 (.map (some M)) (.map none)).run Try.prog W = .ok (.bool true) W := by kernel_rfl
theorem map_ne0 (W : World) : (binOp .neq 60 (.map none) (.map none)).run Try.prog W = .ok (.bool false) W := by kernel_rfl
set_option maxHeartbeats 400000 in
set_option maxRecDepth 100000 in
theorem ok_calls (N M : Nat) (w : World) (h : w.cell? ⟨N, 1, none⟩ = some (.map (some M))) : Calls Try.prog 25 #[.pointer (some ⟨N, 0, none⟩)] w fun e w' => e = .returned (.bool true) ∧ w' = w := by
  have hne := map_ne M
  go_enter Try.func25, Try.ntmps25
  go_wp2
  go_ret
  exact ⟨rfl, rfl⟩
section
variable {w : World} {N M : Nat} {room : Int} {B : Nat} {own : Nat → Option ByteArray} {G : ByteArray → Option Value} {Q : ByteArray → List S34}
set_option maxHeartbeats 400000 in
set_option maxRecDepth 100000 in
theorem len_calls (h : NetG w N M room B own G Q) (s : ByteArray) : Calls Try.prog 15 #[.pointer (some ⟨N, 0, none⟩), .string s] w fun e w' => e = .returned (.int .i64 (Q s).length) ∧ w' = w := by
  obtain ⟨c0, c1⟩ := h.cell
  have hl := h.look s
  obtain ⟨A, c, hv, hc, _⟩ := Kd.R_reads (h.rows s)
  rw [hv] at hl
  go_enter Try.func15, Try.ntmps15
  go_wp2_with (go_at_call 25; (with_reducible refine (ok_calls N M _ c1).mono ?_); rintro e w' ⟨rfl, rfl⟩)
  go_ret
  exact ⟨rfl, rfl⟩
set_option maxHeartbeats 400000 in
set_option maxRecDepth 100000 in
theorem room_calls (h : NetG w N M room B own G Q) : Calls Try.prog 24 #[.pointer (some ⟨N, 0, none⟩)] w fun e w' => e = .returned (.int .i64 room) ∧ w' = w := by
  obtain ⟨c0, c1⟩ := h.cell
  go_enter Try.func24, Try.ntmps24
  go_wp2_with (go_at_call 25; (with_reducible refine (ok_calls N M _ c1).mono ?_); rintro e w' ⟨rfl, rfl⟩)
  go_ret
  exact ⟨rfl, rfl⟩
end
set_option maxHeartbeats 400000 in
set_option maxRecDepth 100000 in
theorem new_bad (room : Int) (w : World) (h : ¬(1 ≤ room ∧ room ≤ 256)) : Calls Try.prog 7 #[.int .i64 room] w fun e w' => e = .returned (.tuple #[.pointer none, .int .i64 1]) ∧ w' = w := by
  by_cases h1 : room < 1
  · clear h
    go_enter Try.func7, Try.ntmps7
    go_wp2
    go_ret2
    exact ⟨rfl, rfl⟩
  · have h2 : room > 256 := by omega
    clear h
    go_enter Try.func7, Try.ntmps7
    go_wp2
    go_ret2
    exact ⟨rfl, rfl⟩
set_option maxHeartbeats 400000 in
set_option maxRecDepth 100000 in
theorem new_calls (room : Int) (w : World) (h1 : 1 ≤ room) (h2 : room ≤ 256) : Calls Try.prog 7 #[.int .i64 room] w fun e w' => ∃ N M, e = .returned (.tuple #[.pointer (some ⟨N, 0, none⟩), .int .i64 0]) ∧ NetG w' N M room w.heap.size (fun _ => none) (fun _ => none) (fun _ => []) ∧ Below w.heap.size w w' ∧ N < w'.heap.size ∧ M < w'.heap.size := by
  have hmm := @run_makeMap Try.prog
  have a1 : ¬ room < 1 := by omega
  have a2 : ¬ room > 256 := by omega
  go_enter Try.func7, Try.ntmps7
  go_wp2
  go_ret2
  have hb : ((w.alloc (.map #[] 0)).alloc (.cells #[.int .i64 room, .map (some w.heap.size)] 62)).heap[w.heap.size + 1]? = some (.cells #[.int .i64 room, .map (some w.heap.size)] 62 (0, 0)) := by
    show ((w.heap.push _).push _)[w.heap.size + 1]? = _
    rw [Array.getElem?_push, if_pos (by simp)]
  have hm : MapF ((w.alloc (.map #[] 0)).alloc (.cells #[.int .i64 room, .map (some w.heap.size)] 62)) w.heap.size (fun _ => none) := (MapF.made w).move ((MapKept.heap_alloc _ _).2 _ (by show _ < (w.heap.push _).size; simp))
  have hn : NetG ((w.alloc (.map #[] 0)).alloc (.cells #[.int .i64 room, .map (some w.heap.size)] 62)) (w.heap.size + 1) w.heap.size room w.heap.size (fun _ => none) (fun _ => none) (fun _ => []) :=
    ⟨hb, hm, fun s => Kd.R_nil _ _ _ _ _, h1, h2, fun s => by simp; omega, by omega, Nat.le_refl _, (fun k s e => by cases e), rfl, rfl, fun s x hx => by cases hx⟩
  exact ⟨_, rfl, _, hn, below_alloc (below_alloc (Below.refl _ _) _) _, heap_lt hb, hm.lt⟩
end Go.Proofs.Ytlnipfmgdkiboaa.N
