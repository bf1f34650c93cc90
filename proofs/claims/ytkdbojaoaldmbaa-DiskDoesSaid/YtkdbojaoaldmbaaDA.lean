import Derived.Test.YtkdbojaoaldmbaaX
import Derived.Test.YtkdbojaoaldmbaaProg
import Derived.MapKept
import Derived.Lib.Hide
import Derived.Lib.SmallJoins
import Derived.Test.YtkdbojaoaldmbaaQ0
import Derived.ArgAppend
import Derived.Test.YtkdbojaoaldmbaaQ7
import Derived.Maps.Own
import Derived.WideMake
import Derived.Deep.RegionHeld3
import Derived.LoopN
import Derived.Maps.RangeWalk
import Derived.Lib.SliceRun
/- Walks of the disk by hand: words, and the functions that only look. -/
namespace Go.Proofs.Ytkdbojaoaldmbaa.D
open Go.RowKit Go.Proofs.YtkdbojaoaldmbaaW.PrintWords Go.Proofs.YtkdbojaoaldmbaaW.PrintLast Go.Proofs.YtkdbojaoaldmbaaW.PrintMore
set_option linter.unusedVariables false
set_option linter.unusedSimpArgs false

/-- What may have changed. -/
structure Chg (S : Nat → Prop) (w w' : World) : Prop where
  os : w'.os = w.os
  tape : w'.tape = w.tape
  output : w'.output = w.output
  size : w.heap.size ≤ w'.heap.size
  block : ∀ k, k < w.heap.size → ¬ S k → w'.heap[k]? = w.heap[k]?
theorem Chg.refl (S : Nat → Prop) (w : World) : Chg S w w := ⟨rfl, rfl, rfl, Nat.le_refl _, fun _ _ _ => rfl⟩
theorem Chg.trans {S T U : Nat → Prop} {w w1 w2 : World} (h1 : Chg S w w1) (h2 : Chg T w1 w2) (hS : ∀ k, k < w.heap.size → S k → U k) (hT : ∀ k, k < w.heap.size → T k → U k) : Chg U w w2 :=
  ⟨h2.os.trans h1.os, h2.tape.trans h1.tape, h2.output.trans h1.output, Nat.le_trans h1.size h2.size, fun k hk hn => (h2.block k (Nat.lt_of_lt_of_le hk h1.size) (fun h => hn (hT k hk h))).trans (h1.block k hk (fun h => hn (hS k hk h)))⟩
theorem Chg.below {S : Nat → Prop} {w w' : World} {B : Nat} (h : Chg S w w') (hB : B ≤ w.heap.size) (hS : ∀ k, S k → B ≤ k) : Below B w w' :=
  ⟨h.os, h.tape, h.output, h.size, fun k hk => h.block k (by omega) (fun hs => by have := hS k hs; omega)⟩
theorem Chg.drewN {S : Nat → Prop} {w w' : World} (h : Chg S w w') (n : Nat) : Chg S w (w'.drewN n) := ⟨h.os, h.tape, h.output, h.size, h.block⟩
theorem Chg.alloc {S : Nat → Prop} {w w' : World} (h : Chg S w w') (o : Obj) : Chg S w (w'.alloc o) := by
  refine ⟨h.os, h.tape, h.output, Nat.le_trans h.size (by show w'.heap.size ≤ (w'.heap.push o).size; simp), fun k hk hn => ?_⟩
  rw [← h.block k hk hn]
  have := h.size
  show (w'.heap.push o)[k]? = _
  rw [Array.getElem?_push, if_neg (by omega)]
theorem blk2 (w : World) (a b : Obj) : ((w.alloc a).alloc b).heap[w.heap.size + 1]? = some b ∧ ((w.alloc a).alloc b).heap[w.heap.size]? = some a := by
  show ((w.heap.push a).push b)[w.heap.size + 1]? = _ ∧ ((w.heap.push a).push b)[w.heap.size]? = _
  constructor
  · rw [Array.getElem?_push, if_pos (by simp)]
  · rw [Array.getElem?_push, if_neg (by simp), Array.getElem?_push, if_pos rfl]
theorem Chg.set {S : Nat → Prop} {w w' : World} (h : Chg S w w') (p : Addr) (v : Value) (hp : S p.block) : Chg S w (w'.setCell p v) := by
  refine ⟨h.os, h.tape, h.output, Nat.le_trans h.size (by simp [World.setCell]), fun k hk hn => ?_⟩
  rw [← h.block k hk hn]
  have : k ≠ p.block := fun e => hn (e ▸ hp)
  simp [World.setCell, Array.getElem?_modify, Ne.symm this]

/-- A disk's cells. -/
def DAt (w : World) (D M : Nat) (room size : Int) : Prop := w.heap[D]? = some (.cells #[.map (some M), .int .i64 room, .int .i64 size] 57 (0, 0))
def nm : ByteArray := ⟨#[102]⟩
/-- The map has just the file 'f'. -/
def MOne (w : World) (M F : Nat) : Prop := ∃ born clk, w.heap[M]? = some (.map #[⟨.string nm, .pointer (some ⟨F, 0, none⟩), born⟩] clk) ∧ born < clk
def MNil (w : World) (M : Nat) : Prop := ∃ clk, w.heap[M]? = some (.map #[] clk)
/-- A file's cells. -/
def FAt (w : World) (F : Nat) (A : Option Addr) (n c : Nat) (lasts : Int) : Prop := w.heap[F]? = some (.cells #[.slice A n c, .int .i64 lasts] 68 (0, 0))
theorem DAt.cells {w : World} {D M : Nat} {room size : Int} (h : DAt w D M room size) : w.cell? ⟨D, 0, none⟩ = some (.map (some M)) ∧ w.cell? ⟨D, 1, none⟩ = some (.int .i64 room) ∧ w.cell? ⟨D, 2, none⟩ = some (.int .i64 size) := by
  unfold DAt at h
  refine ⟨?_, ?_, ?_⟩ <;> simp [World.cell?, h]
theorem FAt.cells {w : World} {F : Nat} {A : Option Addr} {n c : Nat} {lasts : Int} (h : FAt w F A n c lasts) : w.cell? ⟨F, 0, none⟩ = some (.slice A n c) ∧ w.cell? ⟨F, 1, none⟩ = some (.int .i64 lasts) := by
  unfold FAt at h
  refine ⟨?_, ?_⟩ <;> simp [World.cell?, h]
theorem map_ne (M : Nat) (W : World) : (binOp .neq 55 (.map (some M)) (.map none)).run Try.prog W = .ok (.bool true) W := by kernel_rfl
theorem map_ne0 (W : World) : (binOp .neq 55 (.map none) (.map none)).run Try.prog W = .ok (.bool false) W := by kernel_rfl
theorem nm_beq : (nm == nm) = true := by decide
theorem look_one {w : World} {M F : Nat} (h : MOne w M F) : (Instr.lookup 55 (.map (some M)) (.string nm) false).run Try.prog w = .ok (.pointer (some ⟨F, 0, none⟩)) w := by
  obtain ⟨born, clk, h, hbc⟩ := h
  have hc : (Instr.checkKey false 10000 9 (.string nm)).run Try.prog w = .ok () w := MapKept.run_checkKey Try.underlying9 (by simp [MapKept.IsKey]) false 9999
  have hf : Instr.findNow .string (.string nm) [⟨.string nm, .pointer (some ⟨F, 0, none⟩), born⟩] 0 = some (some (0, .pointer (some ⟨F, 0, none⟩))) := by simp [Instr.findNow, Instr.sameNow, nm_beq]
  simp [Instr.lookup, run_underlying Try.underlying55, MapKept.run_getObj_map h, hc, MapKept.run_findKey Try.underlying9 hf, Result.andThen]
theorem look_nil {w : World} {M : Nat} (h : MNil w M) : (Instr.lookup 55 (.map (some M)) (.string nm) false).run Try.prog w = .ok (.pointer none) w := by
  obtain ⟨clk, h⟩ := h
  have hc : (Instr.checkKey true 10000 9 (.string nm)).run Try.prog w = .ok () w := MapKept.run_checkKey Try.underlying9 (by simp [MapKept.IsKey]) true 9999
  have hf : Instr.findNow .string (.string nm) [] 0 = some none := rfl
  have hz : (zeroValue 64).run Try.prog w = .ok (.pointer none) w := by kernel_rfl
  simp [Instr.lookup, run_underlying Try.underlying55, MapKept.run_getObj_map h, hc, MapKept.run_findKey Try.underlying9 hf, Result.andThen, hz]

set_option maxHeartbeats 400000 in
set_option maxRecDepth 100000 in
theorem ok_calls (D M : Nat) (w : World) (h : w.cell? ⟨D, 0, none⟩ = some (.map (some M))) : Calls Try.prog 30 #[.pointer (some ⟨D, 0, none⟩)] w fun e w' => e = .returned (.bool true) ∧ w' = w := by
  have hne := map_ne M
  go_enter Try.func30, Try.ntmps30
  go_wp2
  go_ret
  exact ⟨rfl, rfl⟩
set_option maxHeartbeats 400000 in
set_option maxRecDepth 100000 in
theorem find_calls (D M F : Nat) (room size : Int) (w : World) (h : DAt w D M room size) (hM : MOne w M F) : Calls Try.prog 33 #[.pointer (some ⟨D, 0, none⟩), .string nm] w fun e w' => e = .returned (.tuple #[.pointer (some ⟨F, 0, none⟩), .int .i64 0]) ∧ w' = w := by
  obtain ⟨c0, c1, c2⟩ := h.cells
  have hl := look_one hM
  go_enter Try.func33, Try.ntmps33
  go_wp2_with (go_at_call 30; (with_reducible refine (ok_calls D M w c0).mono ?_); rintro e w' ⟨rfl, rfl⟩)
  go_ret2
  exact ⟨rfl, rfl⟩
end Go.Proofs.Ytkdbojaoaldmbaa.D

/- Walks of the disk by hand: making one, its size, and Sync. -/
namespace Go.Proofs.Ytkdbojaoaldmbaa.D
open Go.RowKit Go.Proofs.YtkdbojaoaldmbaaW.PrintWords Go.Proofs.YtkdbojaoaldmbaaW.PrintLast Go.Proofs.YtkdbojaoaldmbaaW.PrintMore
set_option linter.unusedVariables false
set_option linter.unusedSimpArgs false

set_option maxHeartbeats 400000 in
set_option maxRecDepth 100000 in
theorem size_calls (D M : Nat) (room size : Int) (w : World) (h : DAt w D M room size) : Calls Try.prog 19 #[.pointer (some ⟨D, 0, none⟩)] w fun e w' => e = .returned (.int .i64 size) ∧ w' = w := by
  obtain ⟨c0, c1, c2⟩ := h.cells
  go_enter Try.func19, Try.ntmps19
  go_wp2_with (go_at_call 30; (with_reducible refine (ok_calls D M w c0).mono ?_); rintro e w' ⟨rfl, rfl⟩)
  go_ret
  exact ⟨rfl, rfl⟩
set_option maxHeartbeats 400000 in
set_option maxRecDepth 100000 in
theorem new_calls (w : World) : Calls Try.prog 8 #[.int .i64 100] w fun e w' => ∃ D M : Nat, e = .returned (.tuple #[.pointer (some ⟨D, 0, none⟩), .int .i64 0]) ∧ w.heap.size ≤ D ∧ w.heap.size ≤ M ∧ DAt w' D M 100 0 ∧ MNil w' M ∧ Chg (fun _ => False) w w' := by
  have hmm := @run_makeMap Try.prog
  go_enter Try.func8, Try.ntmps8
  go_wp2
  go_ret2
  exact ⟨w.heap.size + 1, w.heap.size, rfl, by omega, Nat.le_refl _, (blk2 w _ _).1, ⟨0, (blk2 w _ _).2⟩, ((Chg.refl _ w).alloc _).alloc _⟩
set_option maxHeartbeats 400000 in
set_option maxRecDepth 100000 in
theorem sync_calls (D M F : Nat) (room size : Int) (A : Option Addr) (n c : Nat) (lasts : Int) (w : World) (h : DAt w D M room size) (hM : MOne w M F) (hF : FAt w F A n c lasts) :
    Calls Try.prog 21 #[.pointer (some ⟨D, 0, none⟩), .string nm] w fun e w' => e = .returned (.int .i64 0) ∧ FAt w' F A n c n ∧ Chg (fun k => k = F) w w' := by
  obtain ⟨f0, f1⟩ := hF.cells
  have hfz : w.frozen? ⟨F, 1, none⟩ = false := by unfold FAt at hF; simp [World.frozen?, hF]
  go_enter Try.func21, Try.ntmps21
  go_wp2_with (go_at_call 33; (with_reducible refine (find_calls D M F room size w h hM).mono ?_); rintro e w' ⟨rfl, rfl⟩)
  go_ret
  exact ⟨rfl, Go.Joins.block_setCell hF _, (Chg.refl _ _).set _ _ rfl⟩
end Go.Proofs.Ytkdbojaoaldmbaa.D

/- Walks of the disk by hand: rows of bytes, and what is put behind them. -/
namespace Go.Proofs.Ytkdbojaoaldmbaa.D
open Go.RowKit Go.Proofs.Ytkdbojaoaldmbaa.Q Go.Proofs.YtkdbojaoaldmbaaW.PrintWords Go.Proofs.YtkdbojaoaldmbaaW.PrintLast Go.Proofs.YtkdbojaoaldmbaaW.PrintMore
set_option linter.unusedVariables false
set_option linter.unusedSimpArgs false

def u8s (xs : List Int) : List Value := xs.map fun x => Value.int .u8 x
theorem u8s_len (xs : List Int) : (u8s xs).length = xs.length := by simp [u8s]
/-- A row of bytes, as it lies. -/
def RowAt (w : World) (A : Option Addr) (c : Nat) (xs : List Int) : Prop :=
  xs.length ≤ c ∧ xs.length ≤ 100000 ∧ ((A = none ∧ xs = [] ∧ c = 0) ∨ ∃ (g : Nat) (cur : Array Value) (fz : Nat × Nat), A = some ⟨g, 0, none⟩ ∧ w.heap[g]? = some (Obj.cells cur 5 fz) ∧ cur.toList.take xs.length = u8s xs)
theorem RowAt.move {w w' : World} {A : Option Addr} {c : Nat} {xs : List Int} (h : RowAt w A c xs) (hm : ∀ (g : Nat) (cur : Array Value) (fz : Nat × Nat), w.heap[g]? = some (Obj.cells cur 5 fz) → w'.heap[g]? = some (Obj.cells cur 5 fz)) : RowAt w' A c xs := by
  refine ⟨h.1, h.2.1, h.2.2.imp id ?_⟩
  rintro ⟨g, cur, fz, e, hb, ht⟩
  exact ⟨g, cur, fz, e, hm g cur fz hb, ht⟩
theorem RowAt.chg {w w' : World} {A : Option Addr} {c : Nat} {xs : List Int} {S : Nat → Prop} (h : RowAt w A c xs) (hc : Chg S w w') (hS : ∀ k, S k → ∀ (cur : Array Value) (fz : Nat × Nat), w.heap[k]? ≠ some (Obj.cells cur 5 fz)) : RowAt w' A c xs :=
  h.move fun g cur fz hb => (hc.block g (by
    rcases Nat.lt_or_ge g w.heap.size with h | h
    · exact h
    · rw [Array.getElem?_eq_none h] at hb; cases hb) (fun hs => hS g hs cur fz hb)).trans hb
theorem RowAt.cells {w : World} {A : Option Addr} {c : Nat} {xs : List Int} (h : RowAt w A c xs) : Kd.C (Kd.int .u8) w A xs.length xs := by
  refine ⟨rfl, Nat.le_trans h.2.1 (by decide), fun h0 => ?_⟩
  rcases h.2.2 with ⟨_, e, _⟩ | ⟨g, cur, fz, rfl, hb, ht⟩
  · rw [e] at h0; simp at h0
  · refine ⟨_, rfl, fun j p hj => ⟨[.int .u8 p], rfl, rfl, fun i u hi => ?_⟩⟩
    have hi0 : i = 0 := by
      cases i with
      | zero => rfl
      | succ i => simp at hi
    subst hi0
    have hu : Value.int .u8 p = u := by simpa using hi
    subst hu
    have hjl : j < xs.length := by
      rcases Nat.lt_or_ge j xs.length with h | h
      · exact h
      · rw [List.getElem?_eq_none h] at hj; cases hj
    have hc : cur.toList[j]? = some (.int .u8 p) := by
      have : (cur.toList.take xs.length)[j]? = some (.int .u8 p) := by rw [ht]; simp [u8s, hj]
      rwa [List.getElem?_take, if_pos hjl] at this
    have hcell : w.cell? ⟨g, j, none⟩ = some (.int .u8 p) := by
      simp only [World.cell?, hb]
      simpa using hc
    rw [show j * (Kd.int IntKind.u8).sz + 0 = j from Nat.mul_one j]
    cases j with
    | zero => simpa [Addr.add] using hcell
    | succ j => simpa [Addr.add] using hcell
theorem inner_u8 {w : World} {A : Option Addr} {m : Nat} {xs : List Int} (h : Kd.C (Kd.int .u8) w A m xs) (hm : 0 < m) : ∃ ad, A = some ad ∧ ∀ j u, (u8s xs)[j]? = some u → w.cell? (ad.add j) = some u := by
  obtain ⟨hl, _, h2⟩ := h
  obtain ⟨ad, rfl, h3⟩ := h2 hm
  refine ⟨ad, rfl, fun j u hj => ?_⟩
  simp only [u8s, List.getElem?_map, Option.map_eq_some_iff] at hj
  obtain ⟨p, hp, rfl⟩ := hj
  obtain ⟨c, hc1, hc2, hc3⟩ := h3 j p hp
  have e : c = [.int .u8 p] := hc2
  subst e
  have := hc3 0 _ rfl
  rwa [show j * (Kd.int IntKind.u8).sz + 0 = j from Nat.mul_one j] at this
theorem app (W : World) (A : Option Addr) (c : Nat) (ys : List Int) (hy : RowAt W A c ys) (A' : Option Addr) (m c' : Nat) (xs : List Int) (hx : Kd.C (Kd.int .u8) W A' m xs) (hm : 0 < m) (hs : ys.length + m ≤ 100000) (ty : TypeId) :
    ∃ A1 c1 w1, (Builtin.append_ #[29, 29] ty #[.slice A ys.length ys.length, .slice A' m c']).run Try.prog W = .ok (.slice A1 (ys ++ xs).length c1) w1 ∧ RowAt w1 A1 c1 (ys ++ xs) ∧ Chg (fun _ => False) W w1 := by
  obtain ⟨i0, hi, hzz⟩ := Option.map_eq_some_iff.1 info5
  simp only [Prod.mk.injEq] at hzz
  obtain ⟨hz0, hz1, hz2⟩ := hzz
  obtain ⟨ad, rfl, hc⟩ := inner_u8 hx hm
  have hxl : xs.length = m := hx.1
  have fin : ∀ v1 w1, w1.ownsRow W.heap.size 5 1 v1 (ys.length + m) (u8s ys ++ u8s xs) → W.grownBy w1 none → ∃ A1 c1, v1 = .slice A1 (ys ++ xs).length c1 ∧ RowAt w1 A1 c1 (ys ++ xs) ∧ Chg (fun _ => False) W w1 := by
    intro v1 w1 ho hg
    rcases ho.2 with ⟨_, h0⟩ | ⟨g, cap, cur, rfl, hgb, hb, hnc, hcm, hsz, ht⟩
    · omega
    · refine ⟨_, cap, by rw [List.length_append, hxl], ⟨by rw [List.length_append, hxl]; exact hnc, by rw [List.length_append, hxl]; exact hs, .inr ⟨g, cur, _, rfl, hb, ?_⟩⟩, ⟨hg.os, hg.tape, hg.output, hg.size, fun k hk _ => hg.block k hk (by simp)⟩⟩
      rw [Nat.mul_one] at ht
      rw [List.length_append, hxl, ht]
      simp [u8s]
  rcases hy.2.2 with ⟨rfl, rfl, _⟩ | ⟨g, cur, fz, rfl, hb, ht⟩
  · obtain ⟨v1, w1, hrun, h2, hg, _, _⟩ := run_append_own_at (P := Try.prog) W W.heap.size 29 ty 5 i0 (.int .u8 0) 1 1 Try.underlying29 hi hz0 hz1 hz2 rfl (by decide) (.slice none 0 0) 0 [] ⟨rfl, .inl ⟨rfl, rfl⟩⟩ ad m c' (u8s xs) (by rw [u8s_len, hxl, Nat.mul_one]) hc (by intro u hu; simp only [u8s, List.mem_map] at hu; obtain ⟨_, _, rfl⟩ := hu; rfl) (by simp only [maxLen]; omega) (by omega) (Nat.le_refl _)
    obtain ⟨A1, c1, rfl, h3, h4⟩ := fin v1 w1 (by simpa [u8s] using h2) hg
    exact ⟨A1, c1, w1, hrun, h3, h4⟩
  · have hcy : ∀ j u, (u8s ys)[j]? = some u → W.cell? ((⟨g, 0, none⟩ : Addr).add j) = some u := fun j u hj => by
      rcases Nat.eq_zero_or_pos ys.length with h0 | h0
      · rw [List.getElem?_eq_none (by rw [u8s_len]; omega)] at hj; cases hj
      · obtain ⟨ad2, e2, h2⟩ := inner_u8 hy.cells h0
        cases e2
        exact h2 j u hj
    obtain ⟨v1, w1, hrun, h2, hg⟩ := run_append_arg_grows (P := Try.prog) W 29 ty 5 i0 (.int .u8 0) 1 1 Try.underlying29 hi hz0 hz1 hz2 rfl (by decide) ⟨g, 0, none⟩ ys.length ys.length (u8s ys) (by rw [u8s_len, Nat.mul_one]) hcy ad m c' (u8s xs) (by rw [u8s_len, hxl, Nat.mul_one]) hc (by omega) (by simp only [maxLen]; omega) (by omega)
    obtain ⟨A1, c1, rfl, h3, h4⟩ := fin v1 w1 h2 hg
    exact ⟨A1, c1, w1, hrun, h3, h4⟩
/-- The same for any world that is drawn on. -/
theorem appAll (W : World) (A : Option Addr) (c : Nat) (ys : List Int) (hy : RowAt W A c ys) (A' : Option Addr) (m c' : Nat) (xs : List Int) (hx : Kd.C (Kd.int .u8) W A' m xs) (hm : 0 < m) (hs : ys.length + m ≤ 100000) (ty : TypeId) :
    ∃ (A1 : Nat → Option Addr) (c1 : Nat → Nat) (w1 : Nat → World), ∀ nd, (Builtin.append_ #[29, 29] ty #[.slice A ys.length ys.length, .slice A' m c']).run Try.prog (W.drewN nd) = .ok (.slice (A1 nd) (ys ++ xs).length (c1 nd)) (w1 nd) ∧ RowAt (w1 nd) (A1 nd) (c1 nd) (ys ++ xs) ∧ Chg (fun _ => False) W (w1 nd) := by
  have h : ∀ nd : Nat, ∃ t : Option Addr × Nat × World, (Builtin.append_ #[29, 29] ty #[.slice A ys.length ys.length, .slice A' m c']).run Try.prog (W.drewN nd) = .ok (.slice t.1 (ys ++ xs).length t.2.1) t.2.2 ∧ RowAt t.2.2 t.1 t.2.1 (ys ++ xs) ∧ Chg (fun _ => False) W t.2.2 := fun nd => by
    obtain ⟨A1, c1, w1, e, r, g⟩ := app (W.drewN nd) A c ys hy A' m c' xs hx hm hs ty
    exact ⟨(A1, c1, w1), e, r, ⟨g.os, g.tape, g.output, g.size, g.block⟩⟩
  obtain ⟨f, hf⟩ := Classical.axiomOfChoice h
  exact ⟨fun nd => (f nd).1, fun nd => (f nd).2.1, fun nd => (f nd).2.2, hf⟩
end Go.Proofs.Ytkdbojaoaldmbaa.D

/- Walks of the disk by hand: Append. -/
namespace Go.Proofs.Ytkdbojaoaldmbaa.D
open Go.RowKit Go.Proofs.Ytkdbojaoaldmbaa.Q Go.Proofs.YtkdbojaoaldmbaaW.PrintWords Go.Proofs.YtkdbojaoaldmbaaW.PrintLast Go.Proofs.YtkdbojaoaldmbaaW.PrintMore
set_option linter.unusedVariables false
set_option linter.unusedSimpArgs false

theorem title_nm : disk_title.f 10 nm = some true := by kernel_rfl
theorem wpList_mapUpdate_run {P : Program} (w : World) {ops : Array Oper} {rest : List Oper} {o : Oper} {a : Act} {Q : Exit → Act → World → Prop}
    (hg : o.guard = none) (m x v : Operand) (t : TypeId) (hop : o.op = Op.mapUpdate t m x v) (M K V : Value) (hm : a.eval m = M) (hx : a.eval x = K) (hv : a.eval v = V) (w1 : World)
    (hrun : (Instr.mapUpdate t M K V).run P w = .ok () w1) (hK : wpList P ops Q rest (a.put o.dst undef) w1) : wpList P ops Q (o :: rest) a w := by
  refine wpList_plain hg fun K' hK' => ?_
  unfold Oper.wp
  simp [execOp, hop, hm, hx, hv, hrun, Result.andThen]
  exact hK' _ _ hK
theorem append_event {P : Program} {ops : Array Oper} {o : Oper} {rest : List Oper} {a : Act} {Q : Exit → Act → World → Prop} {W : World} (hgd : o.guard = none) (s x : Operand) (t : TypeId)
    (ho : o.op = .call { callee := .builtin .append, args := #[s, x], argTypes := #[t, t] }) (v u : Value) (hs : a.eval s = v) (hx : a.eval x = u) (v1 : Value) (w1 : World)
    (hr1 : (Builtin.append_ #[t, t] o.type #[v, u]).run P W = .ok v1 w1) (h : wpList P ops Q rest (a.put o.dst v1) w1) : wpList P ops Q (o :: rest) a W := by
  refine wpList_plain hgd fun K hK => ?_
  unfold Oper.wp execOp
  simp only [ho, resolve, invoke, builtin, Sem.run_bind, Sem.run_pure, Result.andThen_ok, List.map_toArray, List.map_cons, List.map_nil, hs, hx, hr1]
  exact hK _ _ h
theorem append_step {P : Program} {ops : Array Oper} {o : Oper} {a : Act} {Q : Exit → Act → World → Prop} {Kc : Act → World → Prop} {W : World} (hw : Region.wanted o (yielded ops a.tmps) = true) (s x : Operand) (t : TypeId)
    (ho : o.op = .call { callee := .builtin .append, args := #[s, x], argTypes := #[t, t] }) (v u : Value) (hs : a.eval s = v) (hx : a.eval x = u) (v1 : Value) (w1 : World)
    (hr1 : (Builtin.append_ #[t, t] o.type #[v, u]).run P W = .ok v1 w1) (h : Kc (a.put o.dst v1) w1) : if Region.wanted o (yielded ops a.tmps) = true then Oper.wp P o a W Kc Q else Kc (a.put o.dst undef) W := by
  rw [if_pos hw]
  unfold Oper.wp execOp
  simp only [ho, resolve, invoke, builtin, Sem.run_bind, Sem.run_pure, Result.andThen_ok, List.map_toArray, List.map_cons, List.map_nil, hs, hx, hr1]
  exact h
theorem two_cells {w : World} {g : Nat} {c : Nat} {x y : Int} (h : RowAt w (some ⟨g, 0, none⟩) c [x, y]) : w.cell? ⟨g, 0, none⟩ = some (.int .u8 x) ∧ w.cell? ⟨g, 1, none⟩ = some (.int .u8 y) := by
  rcases h.2.2 with ⟨e, _⟩ | ⟨g', cur, fz, e, hb, ht⟩
  · cases e
  · cases e
    have h0 : cur.toList[0]? = some (.int .u8 x) := by
      have : (cur.toList.take 2)[0]? = some (.int .u8 x) := by rw [show (2 : Nat) = [x, y].length from rfl, ht]; rfl
      rwa [List.getElem?_take, if_pos (by decide)] at this
    have h1 : cur.toList[1]? = some (.int .u8 y) := by
      have : (cur.toList.take 2)[1]? = some (.int .u8 y) := by rw [show (2 : Nat) = [x, y].length from rfl, ht]; rfl
      rwa [List.getElem?_take, if_pos (by decide)] at this
    simp only [World.cell?, hb]
    exact ⟨by simpa using h0, by simpa using h1⟩
theorem map_len {w : World} {M n : Nat} {es : Array MapEntry} {clk : Nat} (h : w.heap[M]? = some (.map es clk)) (hn : es.size = n) : (Builtin.len_ #[55] 3 #[.map (some M)]).run Try.prog w = .ok (.int .i64 n) w := by
  subst hn
  simp [Builtin.len_, run_underlying Try.underlying55, MapKept.run_getObj_map h, Result.andThen, goInt]

theorem heap_lt {w : World} {k : Nat} {o : Obj} (h : w.heap[k]? = some o) : k < w.heap.size := by
  rcases Nat.lt_or_ge k w.heap.size with h1 | h1
  · exact h1
  · rw [Array.getElem?_eq_none h1] at h; cases h
theorem Chg.of_below {w w' : World} {B : Nat} (S : Nat → Prop) (h : Below B w w') (hB : w.heap.size ≤ B) : Chg S w w' := ⟨h.os, h.tape, h.output, h.size, fun k hk _ => h.block k (by omega)⟩
/-- What putting the first file into the map leaves. -/
theorem map_first {w : World} {D M F clk : Nat} {room size : Int} {A : Option Addr} {n c : Nat} {lasts : Int} (hm : w.heap[M]? = some (.map #[] clk)) (hD : DAt w D M room size) (hF : FAt w F A n c lasts) :
    ∃ w1 : World, (Instr.mapUpdate 55 (.map (some M)) (.string nm) (.pointer (some ⟨F, 0, none⟩))).run Try.prog w = .ok () w1 ∧ MOne w1 M F ∧ DAt w1 D M room size ∧ FAt w1 F A n c lasts ∧ Chg (fun k => k = M) w w1 := by
  have hs := fun o => MapKept.heap_set (o' := o) hm
  have hDM : D ≠ M := fun e => by unfold DAt at hD; rw [e, hm] at hD; cases hD
  have hFM : F ≠ M := fun e => by unfold FAt at hF; rw [e, hm] at hF; cases hF
  refine ⟨_, run_mapUpdate_first w 55 9 64 M clk nm _ Try.underlying55 Try.underlying9 hm, ⟨clk, clk + 1, (hs _).1, Nat.lt_succ_self _⟩, ((hs _).2 D hDM).trans hD, ((hs _).2 F hFM).trans hF, ⟨rfl, rfl, rfl, by simp, fun k _ hk => (hs _).2 k hk⟩⟩
theorem cp_le (t : Nat) (o : Nat) : 2 ≤ (Question.appendCap 2 o 5).cut t := Nat.le_add_right _ _
/-- What an append leaves that took a new row. -/
theorem grown {w : World} {D M F : Nat} {room size lasts : Int} {A : Option Addr} {n c cp : Nat} (ys : List Int) (zs : Array Value) (hcp : ys.length ≤ cp) (hn : ys.length ≤ 100000) (hD : DAt w D M room size) (hM : MOne w M F) (hF : FAt w F A n c lasts) :
    ∀ W : World, W = ((w.setCell ⟨F, 0, none⟩ (.slice (some ⟨w.heap.size, 0, none⟩) ys.length cp)).alloc (.cells ((u8s ys).toArray ++ zs) 5)).drew.drew →
      DAt W D M room size ∧ MOne W M F ∧ FAt W F (some ⟨w.heap.size, 0, none⟩) ys.length cp lasts ∧ RowAt W (some ⟨w.heap.size, 0, none⟩) cp ys ∧ Chg (fun k => k = F) w W := by
  rintro W rfl
  obtain ⟨born, clk, hm, hbc⟩ := hM
  have hDl := heap_lt hD
  have hFl := heap_lt hF
  have hMl := heap_lt hm
  have hDF : D ≠ F := fun e => by unfold DAt at hD; unfold FAt at hF; rw [e, hF] at hD; simp at hD
  have hMF : M ≠ F := fun e => by unfold FAt at hF; rw [e, hF] at hm; cases hm
  have hC : Chg (fun k => k = F) w ((w.setCell ⟨F, 0, none⟩ (.slice (some ⟨w.heap.size, 0, none⟩) ys.length cp)).alloc (.cells ((u8s ys).toArray ++ zs) 5)) := ((Chg.refl (fun k => k = F) w).set ⟨F, 0, none⟩ _ rfl).alloc _
  have hC2 : Chg (fun k => k = F) w ((w.setCell ⟨F, 0, none⟩ (.slice (some ⟨w.heap.size, 0, none⟩) ys.length cp)).alloc (.cells ((u8s ys).toArray ++ zs) 5)).drew.drew := ⟨hC.os, hC.tape, hC.output, hC.size, hC.block⟩
  refine ⟨(hC2.block D hDl hDF).trans hD, ⟨born, clk, (hC2.block M hMl hMF).trans hm, hbc⟩, ?_, ⟨hcp, hn, .inr ⟨w.heap.size, (u8s ys).toArray ++ zs, (0, 0), rfl, ?_, ?_⟩⟩, hC2⟩
  · have h1 : (w.setCell ⟨F, 0, none⟩ (.slice (some ⟨w.heap.size, 0, none⟩) ys.length cp)).heap[F]? = some (.cells #[.slice (some ⟨w.heap.size, 0, none⟩) ys.length cp, .int .i64 lasts] 68 (0, 0)) := Go.Joins.block_setCell hF _
    show ((w.setCell ⟨F, 0, none⟩ (.slice (some ⟨w.heap.size, 0, none⟩) ys.length cp)).heap.push _)[F]? = _
    rw [Array.getElem?_push, if_neg (by simp [World.setCell]; omega), h1]
  · show ((w.setCell ⟨F, 0, none⟩ (.slice (some ⟨w.heap.size, 0, none⟩) ys.length cp)).heap.push _)[w.heap.size]? = _
    rw [Array.getElem?_push, if_pos (by simp [World.setCell])]
  · simp [u8s_len]
/-- What stands when the size was set. -/
theorem stored {W : World} {D M F : Nat} {room s lasts : Int} {A R : Option Addr} {n c c' : Nat} {xs : List Int} (t : Int) (hD : DAt W D M room s) (hM : MOne W M F) (hF : FAt W F A n c lasts) (hR : RowAt W R c' xs) :
    DAt (W.setCell ⟨D, 2, none⟩ (.int .i64 t)) D M room t ∧ MOne (W.setCell ⟨D, 2, none⟩ (.int .i64 t)) M F ∧ FAt (W.setCell ⟨D, 2, none⟩ (.int .i64 t)) F A n c lasts ∧ RowAt (W.setCell ⟨D, 2, none⟩ (.int .i64 t)) R c' xs ∧ Chg (fun k => k = D) W (W.setCell ⟨D, 2, none⟩ (.int .i64 t)) := by
  obtain ⟨born, clk, hm, hbc⟩ := hM
  have hDF : F ≠ D := fun e => by unfold DAt at hD; unfold FAt at hF; rw [e, hD] at hF; simp at hF
  have hMD : M ≠ D := fun e => by unfold DAt at hD; rw [e, hD] at hm; cases hm
  have hC : Chg (fun k => k = D) W (W.setCell ⟨D, 2, none⟩ (.int .i64 t)) := (Chg.refl _ W).set _ _ rfl
  refine ⟨Go.Joins.block_setCell hD _, ⟨born, clk, (hC.block M (heap_lt hm) hMD).trans hm, hbc⟩, (hC.block F (heap_lt hF) hDF).trans hF, hR.chg hC ?_, hC⟩
  rintro k rfl cur fz hb
  unfold DAt at hD
  rw [hD] at hb
  cases hb
set_option maxHeartbeats 1000000 in
set_option maxRecDepth 100000 in
theorem append_new (D M G : Nat) (c : Nat) (x y : Int) (w : World) (h : DAt w D M 100 0) (hM : MNil w M) (hx : RowAt w (some ⟨G, 0, none⟩) c [x, y]) :
    Calls Try.prog 20 #[.pointer (some ⟨D, 0, none⟩), .string nm, .slice (some ⟨G, 0, none⟩) 2 c] w fun e w' => e = .returned (.int .i64 0) ∧
      ∃ F A1 c1, w.heap.size ≤ F ∧ FAt w' F A1 2 c1 0 ∧ MOne w' M F ∧ DAt w' D M 100 2 ∧ RowAt w' A1 c1 [x, y] ∧ Chg (fun k => k = D ∨ k = M) w w' := by
  obtain ⟨c0, c1, c2⟩ := h.cells
  have hM0 := hM
  obtain ⟨clk, hm⟩ := hM
  have hlk : ∀ nd, (Instr.lookup 55 (.map (some M)) (.string nm) false).run Try.prog (w.drewN nd) = .ok (.pointer none) (w.drewN nd) := fun nd => look_nil (w := w.drewN nd) hM0
  have hln : ∀ nd, (Builtin.len_ #[55] 3 #[.map (some M)]).run Try.prog (w.drewN nd) = .ok (.int .i64 (0 : Nat)) (w.drewN nd) := fun nd => map_len (w := w.drewN nd) hm rfl
  go_enter Try.func20, Try.ntmps20
  go_wp2_with (first
    | (go_at_call 30; (with_reducible refine (ok_calls D M _ c0).mono ?_); rintro e w' ⟨rfl, rfl⟩)
    | (go_at_call 34; (with_reducible refine (disk_title.calls 10 nm true _ title_nm).mono ?_); rintro e w' ⟨rfl, ⟨nd, rfl⟩⟩))
  go_quiet (fail)
  go_wp2_with (first
    | ((with_reducible refine gate_dst (N := 45) rfl ?_); (try (refine gate_guard (by rfl) ?_; dsimp only)); refine box_event ?hg (N := 45) ?hd (cs := #[.slice none 0 0, .int .i64 0]) (t := 68) ?hr ?_; (case hd => rfl); (case hg => rfl); (case hr => first | (go_simp; done) | (go_simp; rfl)); intro F hg w1 hbox hb; have hFge := Aside0.mk (Nat.le_of_eq hg.symm); clear hg; have hD1 : DAt w1 D M 100 0 := (hb.block D (heap_lt h)).trans h; have hM1 : w1.heap[M]? = some (.map #[] clk) := (hb.block M (heap_lt hm)).trans hm; have hF1 : FAt w1 F none 0 0 0 := hbox; obtain ⟨w2, hrun2, hM2, hD2, hF2, hC2⟩ := map_first hM1 hD1 hF1; have q0 := hD1.cells.1; have HC1 := Aside0.mk (Chg.of_below (fun k => k = D ∨ k = M) hb (Nat.le_refl _)); clear hb hbox)
    | (at_mapUpdate; refine wpList_mapUpdate_run _ rfl (.tmp 49) (.tmp 50) (.tmp 51) 55 rfl _ _ _ rfl rfl rfl _ hrun2 ?_))
  have hCw2 : Chg (fun k => k = D ∨ k = M) _ w2 := HC1.out.trans hC2 (fun k _ h => h) (fun k _ h => .inr h)
  have hx2 : RowAt w2 (some ⟨G, 0, none⟩) c [x, y] := (show RowAt (w'.drewN (nd + nq)) (some ⟨G, 0, none⟩) c [x, y] from hx).chg hCw2 (fun k hk cur fz hb => by
    rcases hk with rfl | rfl
    · have hb' : some _ = some _ := (show (w'.drewN (nd + nq)).heap[k]? = _ from h).symm.trans hb; cases hb'
    · have hb' : some _ = some _ := (show (w'.drewN (nd + nq)).heap[k]? = _ from hm).symm.trans hb; cases hb')
  obtain ⟨x0, x1⟩ := two_cells hx2
  obtain ⟨q1, q2⟩ := hF2.cells
  have qf : w2.frozen? ⟨F, 0, none⟩ = false := by unfold FAt at hF2; simp [World.frozen?, hF2]
  have hcap : Builtin.nextslicecap 2 0 = 2 := by decide
  have hby : Try.t5.bytes = 1 := rfl
  have hFne : F ≠ w2.heap.size := fun e => by have := heap_lt hF2; omega
  have hFlt := heap_lt hF2
  go_region_with (fail)
  all_goals (
    have hgr := grown [x, y] (Builtin.zeroCells #[.int .u8 0] ((Question.appendCap 2 0 5).cut (w2.tape (w2.drawn + 1) (Question.appendCap 2 0 5)) - 2)) (cp_le (w2.tape (w2.drawn + 1) (Question.appendCap 2 0 5)) 0) (by simp) hD2 hM2 hF2 _ rfl
    generalize hW : (((w2.setCell ⟨F, 0, none⟩ (.slice (some ⟨w2.heap.size, 0, none⟩) 2 ((Question.appendCap 2 0 5).cut (w2.tape (w2.drawn + 1) (Question.appendCap 2 0 5))))).alloc (.cells (#[.int .u8 x, .int .u8 y] ++ Builtin.zeroCells #[.int .u8 0] ((Question.appendCap 2 0 5).cut (w2.tape (w2.drawn + 1) (Question.appendCap 2 0 5)) - 2)) 5)).drew.drew) = W
    obtain ⟨hD4, hM4, hF4, hR4, hC4⟩ := (show DAt W D M 100 0 ∧ MOne W M F ∧ FAt W F (some ⟨w2.heap.size, 0, none⟩) 2 ((Question.appendCap 2 0 5).cut (w2.tape (w2.drawn + 1) (Question.appendCap 2 0 5))) 0 ∧ RowAt W (some ⟨w2.heap.size, 0, none⟩) ((Question.appendCap 2 0 5).cut (w2.tape (w2.drawn + 1) (Question.appendCap 2 0 5))) [x, y] ∧ Chg (fun k => k = F) w2 W by subst hW; exact hgr)
    clear hgr hW
    obtain ⟨r0, r1, r2⟩ := hD4.cells
    have rf : W.frozen? ⟨D, 2, none⟩ = false := by unfold DAt at hD4; simp [World.frozen?, hD4]
    go_wp2_with (fail)
    go_ret
    obtain ⟨hD5, hM5, hF5, hR5, hC5⟩ := stored 2 hD4 hM4 hF4 hR4
    refine ⟨rfl, F, _, _, hFge.out, hF5, hM5, hD5, hR5, ⟨hC5.os.trans (hC4.os.trans hCw2.os), hC5.tape.trans (hC4.tape.trans hCw2.tape), hC5.output.trans (hC4.output.trans hCw2.output), Nat.le_trans hCw2.size (Nat.le_trans hC4.size hC5.size), fun k hk hn => ?_⟩⟩
    have hkF : k ≠ F := fun e => absurd hk (Nat.not_lt.2 (e ▸ hFge.out))
    have hk2 := Nat.lt_of_lt_of_le hk hCw2.size
    rw [hC5.block k (Nat.lt_of_lt_of_le hk2 hC4.size) (fun e => hn (.inl e)), hC4.block k hk2 hkF]
    exact hCw2.block k hk hn)
end Go.Proofs.Ytkdbojaoaldmbaa.D

/- Walks of the disk by hand: Append to a file that is there. -/
namespace Go.Proofs.Ytkdbojaoaldmbaa.D
open Go.RowKit Go.Proofs.Ytkdbojaoaldmbaa.Q Go.Proofs.YtkdbojaoaldmbaaW.PrintWords Go.Proofs.YtkdbojaoaldmbaaW.PrintLast Go.Proofs.YtkdbojaoaldmbaaW.PrintMore
set_option linter.unusedVariables false
set_option linter.unusedSimpArgs false

theorem cp_le4 (t : Nat) (o : Nat) : 4 ≤ (Question.appendCap 4 o 5).cut t := Nat.le_add_right _ _
set_option maxHeartbeats 1000000 in
set_option maxRecDepth 100000 in
theorem append_more (D M F G g : Nat) (c c1 : Nat) (a b x y lasts : Int) (w : World) (h : DAt w D M 100 2) (hM : MOne w M F) (hF : FAt w F (some ⟨g, 0, none⟩) 2 c1 lasts) (hg : RowAt w (some ⟨g, 0, none⟩) c1 [a, b]) (hx : RowAt w (some ⟨G, 0, none⟩) c [x, y]) :
    Calls Try.prog 20 #[.pointer (some ⟨D, 0, none⟩), .string nm, .slice (some ⟨G, 0, none⟩) 2 c] w fun e w' => e = .returned (.int .i64 0) ∧
      ∃ A1 c2, FAt w' F A1 4 c2 lasts ∧ MOne w' M F ∧ DAt w' D M 100 4 ∧ RowAt w' A1 c2 [a, b, x, y] ∧ Chg (fun k => k = D ∨ k = F) w w' := by
  obtain ⟨c0, c1', c2'⟩ := h.cells
  have hM0 := hM
  obtain ⟨born, clk, hm, hbc⟩ := hM
  have hlk : ∀ nd, (Instr.lookup 55 (.map (some M)) (.string nm) false).run Try.prog (w.drewN nd) = .ok (.pointer (some ⟨F, 0, none⟩)) (w.drewN nd) := fun nd => look_one (w := w.drewN nd) hM0
  have hln : ∀ nd, (Builtin.len_ #[55] 3 #[.map (some M)]).run Try.prog (w.drewN nd) = .ok (.int .i64 (1 : Nat)) (w.drewN nd) := fun nd => map_len (w := w.drewN nd) hm rfl
  go_enter Try.func20, Try.ntmps20
  go_wp2_with (first
    | (go_at_call 30; (with_reducible refine (ok_calls D M _ c0).mono ?_); rintro e w' ⟨rfl, rfl⟩)
    | (go_at_call 34; (with_reducible refine (disk_title.calls 10 nm true _ title_nm).mono ?_); rintro e w' ⟨rfl, ⟨nd, rfl⟩⟩))
  go_quiet (fail)
  go_wp2_with (fail)
  have hC0 : Chg (fun _ => False) w' (w'.drewN (nd + nq)) := (Chg.refl _ _).drewN _
  replace h : DAt (w'.drewN (nd + nq)) D M 100 2 := h
  replace hM0 : MOne (w'.drewN (nd + nq)) M F := hM0
  replace hF : FAt (w'.drewN (nd + nq)) F (some ⟨g, 0, none⟩) 2 c1 lasts := hF
  replace hg : RowAt (w'.drewN (nd + nq)) (some ⟨g, 0, none⟩) c1 [a, b] := hg
  replace hx : RowAt (w'.drewN (nd + nq)) (some ⟨G, 0, none⟩) c [x, y] := hx
  clear hlk hln c0 c1' c2' hm
  generalize w'.drewN (nd + nq) = w2 at *
  obtain ⟨x0, x1⟩ := two_cells hx
  obtain ⟨y0, y1⟩ := two_cells hg
  obtain ⟨q1, q2⟩ := hF.cells
  have qf : w2.frozen? ⟨F, 0, none⟩ = false := by unfold FAt at hF; simp [World.frozen?, hF]
  have hcap : Builtin.nextslicecap 4 2 = 4 := by decide
  have hby : Try.t5.bytes = 1 := rfl
  have hc1 : 2 ≤ c1 := hg.1
  have hFne : F ≠ w2.heap.size := fun e => by have := heap_lt hF; omega
  have hFlt := heap_lt hF
  go_region_with (fail)
  all_goals (
    have hgr := grown [a, b, x, y] (Builtin.zeroCells #[.int .u8 0] (((Question.appendCap 4 2 5).cut (w2.tape (w2.drawn + 1) (Question.appendCap 4 2 5))) - 4)) (cp_le4 (w2.tape (w2.drawn + 1) (Question.appendCap 4 2 5)) 2) (by simp) h hM0 hF _ rfl
    have hE : (#[Value.int IntKind.u8 a, Value.int IntKind.u8 b] ++ (#[Value.int IntKind.u8 x, Value.int IntKind.u8 y] ++ Builtin.zeroCells #[Value.int IntKind.u8 0] (((Question.appendCap 4 2 5).cut (w2.tape (w2.drawn + 1) (Question.appendCap 4 2 5))) - 4)) : Array Value) = (u8s [a, b, x, y]).toArray ++ Builtin.zeroCells #[.int .u8 0] (((Question.appendCap 4 2 5).cut (w2.tape (w2.drawn + 1) (Question.appendCap 4 2 5))) - 4) := by rw [← Array.append_assoc]; rfl
    rw [hE]
    generalize hW : (((w2.setCell ⟨F, 0, none⟩ (.slice (some ⟨w2.heap.size, 0, none⟩) 4 ((Question.appendCap 4 2 5).cut (w2.tape (w2.drawn + 1) (Question.appendCap 4 2 5))))).alloc (.cells ((u8s [a, b, x, y]).toArray ++ Builtin.zeroCells #[.int .u8 0] (((Question.appendCap 4 2 5).cut (w2.tape (w2.drawn + 1) (Question.appendCap 4 2 5))) - 4)) 5)).drew.drew) = W
    obtain ⟨hD4, hM4, hF4, hR4, hC4⟩ := (show DAt W D M 100 2 ∧ MOne W M F ∧ FAt W F (some ⟨w2.heap.size, 0, none⟩) 4 ((Question.appendCap 4 2 5).cut (w2.tape (w2.drawn + 1) (Question.appendCap 4 2 5))) lasts ∧ RowAt W (some ⟨w2.heap.size, 0, none⟩) ((Question.appendCap 4 2 5).cut (w2.tape (w2.drawn + 1) (Question.appendCap 4 2 5))) [a, b, x, y] ∧ Chg (fun k => k = F) w2 W by subst hW; exact hgr)
    clear hgr hW hE
    obtain ⟨r0, r1, r2⟩ := hD4.cells
    have rf : W.frozen? ⟨D, 2, none⟩ = false := by unfold DAt at hD4; simp [World.frozen?, hD4]
    go_wp2_with (fail)
    go_ret
    obtain ⟨hD5, hM5, hF5, hR5, hC5⟩ := stored 4 hD4 hM4 hF4 hR4
    refine ⟨rfl, _, _, hF5, hM5, hD5, hR5, (hC0.trans (T := fun k => k = F) (U := fun k => k = F) hC4 (fun _ _ e => e.elim) (fun _ _ e => e)).trans hC5 (fun _ _ e => .inr e) (fun _ _ e => .inl e)⟩)
end Go.Proofs.Ytkdbojaoaldmbaa.D

/- Walks of the disk by hand: a list of one name is sorted. -/
namespace Go.Proofs.Ytkdbojaoaldmbaa.D
open Go.RowKit Go.Proofs.Ytkdbojaoaldmbaa.Q Go.Proofs.YtkdbojaoaldmbaaW.PrintWords Go.Proofs.YtkdbojaoaldmbaaW.PrintLast Go.Proofs.YtkdbojaoaldmbaaW.PrintMore
set_option linter.unusedVariables false
set_option linter.unusedSimpArgs false

set_option maxHeartbeats 400000 in
set_option maxRecDepth 100000 in
theorem len64_one (w : World) : Calls Try.prog 58 #[.int .u64 1] w fun e w' => e = .returned (.int .i64 1) ∧ Drawn0 w w' := by
  go_enter Try.func58, Try.ntmps58
  go_wp2
  go_ret
  exact ⟨by kernel_rfl, 0, rfl⟩
set_option maxHeartbeats 400000 in
set_option maxRecDepth 100000 in
theorem len_one (w : World) : Calls Try.prog 44 #[.int .u64 1] w fun e w' => e = .returned (.int .i64 1) ∧ Drawn0 w w' := by
  go_enter Try.func44, Try.ntmps44
  go_wp2_with (go_at_call 58; (with_reducible refine (len64_one _).mono ?_); rintro e w' ⟨rfl, ⟨nd, rfl⟩⟩)
  go_ret
  exact ⟨rfl, nd, rfl⟩
set_option maxHeartbeats 400000 in
set_option maxRecDepth 100000 in
theorem ins_one (A : Option Addr) (cap : Nat) (w : World) : Calls Try.prog 48 #[.slice A 1 cap, .int .i64 0, .int .i64 1] w fun e w' => e = .returned (.tuple #[]) ∧ Drawn0 w w' := by
  go_enter Try.func48, Try.ntmps48
  go_wp2
  refine wp_loop_rounds 1 ?_
  rw [rounds_succ]
  go_wp2
  (first | go_end0 | ((try simp only [Exit.inBlock, Exit.then]); refine bodyPost_ret (results_none rfl _ _ _) rfl ?_))
  exact ⟨rfl, 0, rfl⟩
set_option maxHeartbeats 400000 in
set_option maxRecDepth 100000 in
theorem pdq_one (A : Option Addr) (cap : Nat) (w : World) : Calls Try.prog 43 #[.slice A 1 cap, .int .i64 0, .int .i64 1, .int .i64 1] w fun e w' => e = .returned (.tuple #[]) ∧ Drawn0 w w' := by
  go_enter Try.func43, Try.ntmps43
  go_wp2
  refine wp_loop_rounds 1 ?_
  rw [rounds_succ]
  go_wp2_with (go_at_call 48; (with_reducible refine (ins_one A cap _).mono ?_); rintro e w' ⟨rfl, ⟨nd, rfl⟩⟩)
  (first | go_end0 | ((try simp only [Exit.inBlock, Exit.then]); refine bodyPost_ret (results_none rfl _ _ _) rfl ?_))
  exact ⟨rfl, nd, rfl⟩
set_option maxHeartbeats 400000 in
set_option maxRecDepth 100000 in
theorem sort_one (A : Option Addr) (cap : Nat) (w : World) : Calls Try.prog 31 #[.slice A 1 cap] w fun e w' => e = .returned (.tuple #[]) ∧ Drawn0 w w' := by
  go_enter Try.func31, Try.ntmps31
  go_wp2_with (first
    | (go_at_call 44; (with_reducible refine (len_one _).mono ?_); rintro e w' ⟨rfl, ⟨nd, rfl⟩⟩)
    | (go_at_call 43; (with_reducible refine (pdq_one A cap _).mono ?_); rintro e w' ⟨rfl, ⟨ne, rfl⟩⟩))
  (first | go_end0 | ((try simp only [Exit.inBlock, Exit.then]); refine bodyPost_ret (results_none rfl _ _ _) rfl ?_))
  exact ⟨rfl, by repeat (first | exact Drawn0.refl _ | apply Drawn0.step)⟩
theorem next_first {w : World} {M F r : Nat} {born clk : Nat} (hm : w.heap[M]? = some (.map #[⟨.string nm, .pointer (some ⟨F, 0, none⟩), born⟩] clk)) (hbc : born < clk) (hr : w.heap[r]? = some (.mapIter (some M) clk #[] clk)) (ty : TypeId) :
    (Instr.next (.pointer (some ⟨r, 0, none⟩)) false ty).run Try.prog w = .ok (.tuple #[.bool true, .string nm, .pointer (some ⟨F, 0, none⟩)]) (Go.ChangeMaps.setBlock w r (.mapIter (some M) clk #[born] clk)) ∨
    (Instr.next (.pointer (some ⟨r, 0, none⟩)) false ty).run Try.prog w = .ok (.tuple #[.bool true, .string nm, .pointer (some ⟨F, 0, none⟩)]) (Go.ChangeMaps.setBlock w.drew r (.mapIter (some M) clk #[born] clk)) := by
  rcases run_next_at (P := Try.prog) w ty r M clk clk #[] _ clk hr hm (by intro x hx; simp at hx; subst hx; exact hbc) (Nat.le_refl _) with ⟨h0, _⟩ | ⟨e, he, w1, h1, h2⟩
  · simp [leftOf] at h0
  · simp [leftOf] at he
    subst he
    rcases h1 with rfl | rfl
    · exact .inl h2
    · exact .inr h2
theorem next_none {w : World} {M F r : Nat} {born clk : Nat} (hm : w.heap[M]? = some (.map #[⟨.string nm, .pointer (some ⟨F, 0, none⟩), born⟩] clk)) (hbc : born < clk) (hr : w.heap[r]? = some (.mapIter (some M) clk #[born] clk)) (ty : TypeId) :
    (Instr.next (.pointer (some ⟨r, 0, none⟩)) false ty).run Try.prog w = .ok (.tuple #[.bool false]) w := by
  rcases run_next_at (P := Try.prog) w ty r M clk clk #[born] _ clk hr hm (by intro x hx; simp at hx; subst hx; exact hbc) (Nat.le_refl _) with ⟨_, h0⟩ | ⟨e, he, w1, h1, h2⟩
  · exact h0
  · simp [leftOf] at he
theorem entry_first {w : World} {M F r : Nat} {born clk : Nat} (hm : w.heap[M]? = some (.map #[⟨.string nm, .pointer (some ⟨F, 0, none⟩), born⟩] clk)) (hr : w.heap[r]? = some (.mapIter (some M) clk #[born] clk)) :
    (Instr.entry (.pointer (some ⟨r, 0, none⟩))).run Try.prog w = .ok (.tuple #[.string nm, .pointer (some ⟨F, 0, none⟩)]) w :=
  run_entry_at (P := Try.prog) w r M clk #[] _ clk ⟨.string nm, .pointer (some ⟨F, 0, none⟩), born⟩ hr hm (by simp) (by simp)
end Go.Proofs.Ytkdbojaoaldmbaa.D

/- Walks of the disk by hand: List of a disk of one file. -/
namespace Go.Proofs.Ytkdbojaoaldmbaa.D
open Go.RowKit Go.Proofs.Ytkdbojaoaldmbaa.Q Go.Proofs.YtkdbojaoaldmbaaW.PrintWords Go.Proofs.YtkdbojaoaldmbaaW.PrintLast Go.Proofs.YtkdbojaoaldmbaaW.PrintMore
set_option linter.unusedVariables false
set_option linter.unusedSimpArgs false

theorem wpList_range_run {P : Program} (w : World) {ops : Array Oper} {rest : List Oper} {o : Oper} {a : Act} {Q : Exit → Act → World → Prop}
    (hg : o.guard = none) (m : Operand) (t : TypeId) (hop : o.op = Op.range t m) (M V : Value) (hm : a.eval m = M) (w1 : World)
    (hrun : (Instr.range t M).run P w = .ok V w1) (hK : wpList P ops Q rest (a.put o.dst V) w1) : wpList P ops Q (o :: rest) a w := by
  refine wpList_plain hg fun K' hK' => ?_
  unfold Oper.wp
  simp [execOp, hop, hm, hrun, Result.andThen]
  exact hK' _ _ hK
theorem wpList_next_run {P : Program} (w : World) {ops : Array Oper} {rest : List Oper} {o : Oper} {a : Act} {Q : Exit → Act → World → Prop}
    (hg : o.guard = none) (it : Operand) (hop : o.op = Op.next it false) (M V : Value) (hm : a.eval it = M) (w1 : World)
    (hrun : (Instr.next M false o.type).run P w = .ok V w1) (hK : wpList P ops Q rest (a.put o.dst V) w1) : wpList P ops Q (o :: rest) a w := by
  refine wpList_plain hg fun K' hK' => ?_
  unfold Oper.wp
  simp [execOp, hop, hm, hrun, Result.andThen]
  exact hK' _ _ hK
theorem Chg.setBlk {S : Nat → Prop} {w w' : World} (h : Chg S w w') (r : Nat) (o : Obj) (hr : w.heap.size ≤ r) : Chg S w (Go.ChangeMaps.setBlock w' r o) := by
  refine ⟨h.os, h.tape, h.output, by simpa [Go.ChangeMaps.setBlock] using h.size, fun k hk hn => ?_⟩
  rw [← h.block k hk hn]
  have : k ≠ r := by omega
  simp [Go.ChangeMaps.setBlock, Array.getElem?_setIfInBounds, Ne.symm this]
/-- The map as it stands while it is gone through. -/
def MIs (w : World) (M F born clk : Nat) : Prop := w.heap[M]? = some (.map #[⟨.string nm, .pointer (some ⟨F, 0, none⟩), born⟩] clk)
def ItAt (w : World) (r M clk : Nat) (seen : Array Nat) : Prop := w.heap[r]? = some (.mapIter (some M) clk seen clk)
theorem range_one {w : World} {M F born clk : Nat} (hm : MIs w M F born clk) : ∃ w1 : World, (Instr.range 55 (.map (some M))).run Try.prog w = .ok (.pointer (some ⟨w.heap.size, 0, none⟩)) w1 ∧ MIs w1 M F born clk ∧ ItAt w1 w.heap.size M clk #[] ∧ Chg (fun _ => False) w w1 :=
  ⟨_, run_range_map w 55 9 64 M _ clk Try.underlying55 hm, (heap_alloc_old w _ (heap_lt hm)).trans hm, heap_alloc_new w _, (Chg.refl _ w).alloc _⟩
theorem next_one {w0 w : World} {M F born clk r : Nat} (hC : Chg (fun _ => False) w0 w) (hr0 : w0.heap.size ≤ r) (hm : MIs w M F born clk) (hbc : born < clk) (hr : ItAt w r M clk #[]) : ∃ w1 : World, (Instr.next (.pointer (some ⟨r, 0, none⟩)) false 0).run Try.prog w = .ok (.tuple #[.bool true, .string nm, .pointer (some ⟨F, 0, none⟩)]) w1 ∧
    MIs w1 M F born clk ∧ ItAt w1 r M clk #[born] ∧ Chg (fun _ => False) w0 w1 ∧ (Instr.entry (.pointer (some ⟨r, 0, none⟩))).run Try.prog w1 = .ok (.tuple #[.string nm, .pointer (some ⟨F, 0, none⟩)]) w1 := by
  have hMr : M ≠ r := fun e => by unfold MIs at hm; unfold ItAt at hr; rw [e, hr] at hm; cases hm
  have key : ∀ w' : World, w'.heap = w.heap → Chg (fun _ => False) w0 w' → MIs (Go.ChangeMaps.setBlock w' r (.mapIter (some M) clk #[born] clk)) M F born clk ∧ ItAt (Go.ChangeMaps.setBlock w' r (.mapIter (some M) clk #[born] clk)) r M clk #[born] ∧ Chg (fun _ => False) w0 (Go.ChangeMaps.setBlock w' r (.mapIter (some M) clk #[born] clk)) := fun w' e hC' => by
    have hs := MapKept.heap_set (o' := .mapIter (some M) clk #[born] clk) (show w'.heap[r]? = some (.mapIter (some M) clk #[] clk) by rw [e]; exact hr)
    exact ⟨(hs.2 M hMr).trans (by rw [e]; exact hm), hs.1, hC'.setBlk _ _ hr0⟩
  rcases next_first hm hbc hr 0 with h | h
  · obtain ⟨k1, k2, k3⟩ := key w rfl hC
    exact ⟨_, h, k1, k2, k3, entry_first k1 k2⟩
  · obtain ⟨k1, k2, k3⟩ := key w.drew rfl ⟨hC.os, hC.tape, hC.output, hC.size, hC.block⟩
    exact ⟨_, h, k1, k2, k3, entry_first k1 k2⟩
theorem two_laid {w0 w : World} {M F born clk r : Nat} (a : Obj) (v : Value) (zs : Array Value) (t : TypeId) (hC : Chg (fun _ => False) w0 w) (hm : MIs w M F born clk) (hr : ItAt w r M clk #[born]) :
    ∀ W : World, W = ((w.alloc a).alloc (.cells (#[v] ++ zs) t)).drew → MIs W M F born clk ∧ ItAt W r M clk #[born] ∧ W.cell? ⟨w.heap.size + 1, 0, none⟩ = some v ∧ Chg (fun _ => False) w0 W := by
  rintro W rfl
  have hC1 : Chg (fun _ => False) w ((w.alloc a).alloc (.cells (#[v] ++ zs) t)).drew := by
    have := ((Chg.refl (fun _ => False) w).alloc a).alloc (.cells (#[v] ++ zs) t)
    exact ⟨this.os, this.tape, this.output, this.size, this.block⟩
  refine ⟨(hC1.block M (heap_lt hm) id).trans hm, (hC1.block r (heap_lt hr) id).trans hr, ?_, hC.trans hC1 (fun _ _ e => e) (fun _ _ e => e)⟩
  have hb : ((w.alloc a).alloc (.cells (#[v] ++ zs) t)).drew.heap[w.heap.size + 1]? = some (.cells (#[v] ++ zs) t) := (blk2 w a (.cells (#[v] ++ zs) t)).1
  unfold World.cell?
  rw [hb]
  simp [Array.getElem?_append]
set_option maxHeartbeats 1000000 in
set_option maxRecDepth 100000 in
theorem list_calls (D M F : Nat) (room size : Int) (w : World) (h : DAt w D M room size) (hM : MOne w M F) :
    Calls Try.prog 11 #[.pointer (some ⟨D, 0, none⟩)] w fun e w' => ∃ g cap, e = .returned (.slice (some ⟨g, 0, none⟩) 1 cap) ∧ w'.cell? ⟨g, 0, none⟩ = some (.string nm) ∧ Chg (fun _ => False) w w' := by
  obtain ⟨c0, c1, c2⟩ := h.cells
  obtain ⟨born, clk, hm, hbc⟩ := hM
  obtain ⟨w1, hrg, hm1, hr1, hC1⟩ := range_one hm
  obtain ⟨w2, hnx, hm2, hr2, hC2, hen⟩ := next_one hC1 (Nat.le_refl _) hm1 hbc hr1
  have hcap : Builtin.nextslicecap 1 0 = 1 := by decide
  have hby : Try.t9.bytes = 16 := rfl
  go_enter Try.func11, Try.ntmps11
  go_wp2_with (first
    | (go_at_call 30; (with_reducible refine (ok_calls D M _ c0).mono ?_); rintro e w' ⟨rfl, rfl⟩)
    | (at_range; refine wpList_range_run _ rfl (.tmp 11) 55 rfl _ _ rfl _ hrg ?_))
  refine wp_loop_rounds 2 ?_
  rw [rounds_succ]
  go_wp2_with (first
    | (at_next; refine wpList_next_run _ rfl (.tmp 12) rfl _ _ rfl _ hnx ?_))
  have hgr := two_laid (.cells #[.string nm] 9) (.string nm) (Builtin.zeroCells #[.string ⟨#[]⟩] (((Question.appendCap 1 0 9).cut (w2.tape w2.drawn (Question.appendCap 1 0 9))) - 1)) 9 hC2 hm2 hr2 _ rfl
  generalize hW : ((w2.alloc (.cells #[.string nm] 9)).alloc (.cells (#[.string nm] ++ Builtin.zeroCells #[.string ⟨#[]⟩] (((Question.appendCap 1 0 9).cut (w2.tape w2.drawn (Question.appendCap 1 0 9))) - 1)) 9)).drew = W at *
  obtain ⟨hm3, hr3, hc3, hC3⟩ := hgr
  clear hW hen hnx hrg
  have hnx2 := next_none hm3 hbc hr3 0
  rw [rounds_succ]
  go_wp2_with (first
    | (at_next; refine wpList_next_run _ rfl (.tmp 12) rfl _ _ rfl _ hnx2 ?_)
    | (go_at_call 31; (with_reducible refine (sort_one _ _ _).mono ?_); rintro e w'' ⟨rfl, ⟨nd, rfl⟩⟩))
  go_ret
  exact ⟨_, _, rfl, hc3, hC3.drewN _⟩
end Go.Proofs.Ytkdbojaoaldmbaa.D

/- Walks of the disk by hand: Crash of a disk of one file. -/
namespace Go.Proofs.Ytkdbojaoaldmbaa.D
open Go.RowKit Go.Proofs.Ytkdbojaoaldmbaa.Q Go.Proofs.YtkdbojaoaldmbaaW.PrintWords Go.Proofs.YtkdbojaoaldmbaaW.PrintLast Go.Proofs.YtkdbojaoaldmbaaW.PrintMore
set_option linter.unusedVariables false
set_option linter.unusedSimpArgs false

theorem DAt.chg {S : Nat → Prop} {w w' : World} {D M : Nat} {room size : Int} (h : DAt w D M room size) (hC : Chg S w w') (hn : ¬ S D) : DAt w' D M room size := (hC.block D (heap_lt h) hn).trans h
theorem FAt.chg {S : Nat → Prop} {w w' : World} {F : Nat} {A : Option Addr} {n c : Nat} {lasts : Int} (h : FAt w F A n c lasts) (hC : Chg S w w') (hn : ¬ S F) : FAt w' F A n c lasts := (hC.block F (heap_lt h) hn).trans h
theorem MOne.chg {S : Nat → Prop} {w w' : World} {M F : Nat} (h : MOne w M F) (hC : Chg S w w') (hn : ¬ S M) : MOne w' M F := by
  obtain ⟨born, clk, hm, hb⟩ := h
  exact ⟨born, clk, (hC.block M (heap_lt hm) hn).trans hm, hb⟩
set_option maxHeartbeats 1000000 in
set_option maxRecDepth 100000 in
theorem crash_calls (D M F g c : Nat) (w : World) (h : DAt w D M 100 4) (hM : MOne w M F) (hF : FAt w F (some ⟨g, 0, none⟩) 4 c 2) (hc : 4 ≤ c) :
    Calls Try.prog 17 #[.pointer (some ⟨D, 0, none⟩), .int .i64 1] w fun e w' => e = .returned (.tuple #[]) ∧ FAt w' F (some ⟨g, 0, none⟩) 3 3 3 ∧ MOne w' M F ∧ DAt w' D M 100 3 ∧ Chg (fun k => k = D ∨ k = F) w w' := by
  obtain ⟨c0, c1, c2⟩ := h.cells
  go_enter Try.func17, Try.ntmps17
  go_wp2_with (first
    | (go_at_call 30; (with_reducible refine (ok_calls D M _ c0).mono ?_); rintro e w' ⟨rfl, rfl⟩)
    | (go_at_call 11; (with_reducible refine (list_calls D M F 100 4 _ h hM).mono ?_); rintro e w1 ⟨gl, cl, rfl, hcl, hC1⟩))
  refine wp_loop_rounds 2 ?_
  rw [rounds_succ]
  have hD1 := h.chg hC1 id
  have hF1 := hF.chg hC1 id
  have hM1 := hM.chg hC1 id
  have hlk := look_one hM1
  obtain ⟨d0, d1, d2⟩ := hD1.cells
  obtain ⟨f0, f1⟩ := hF1.cells
  have rf : w1.frozen? ⟨D, 2, none⟩ = false := by unfold DAt at hD1; simp [World.frozen?, hD1]
  have qf : w1.frozen? ⟨F, 0, none⟩ = false := by unfold FAt at hF1; simp [World.frozen?, hF1]
  have qf1 : w1.frozen? ⟨F, 1, none⟩ = false := by unfold FAt at hF1; simp [World.frozen?, hF1]
  clear c0 c1 c2
  go_wp2_with (fail)
  go_quiet (fail)
  go_wp2_with (fail)
  go_region_with (fail)
  all_goals (
    have hv : IntKind.i64.wrap (4 - IntKind.i64.wrap 1) = 3 := by decide
    rw [hv]
    obtain ⟨hD2, hM2, hF2, hC2⟩ : DAt ((w1.drewN (nq + 1)).setCell ⟨D, 2, none⟩ (.int .i64 3)) D M 100 3 ∧ MOne ((w1.drewN (nq + 1)).setCell ⟨D, 2, none⟩ (.int .i64 3)) M F ∧ FAt ((w1.drewN (nq + 1)).setCell ⟨D, 2, none⟩ (.int .i64 3)) F (some ⟨g, 0, none⟩) 4 c 2 ∧ Chg (fun k => k = D) w1 ((w1.drewN (nq + 1)).setCell ⟨D, 2, none⟩ (.int .i64 3)) := by
      obtain ⟨born, clk, hm, hb⟩ := hM1
      have hC := ((Chg.refl (fun k => k = D) w1).drewN (nq + 1)).set ⟨D, 2, none⟩ (.int .i64 3) rfl
      have hDF : ¬ F = D := fun e => by unfold DAt at hD1; unfold FAt at hF1; rw [e, hD1] at hF1; simp at hF1
      have hMD : ¬ M = D := fun e => by unfold DAt at hD1; rw [e, hD1] at hm; cases hm
      exact ⟨Go.Joins.block_setCell (w := w1.drewN (nq + 1)) hD1 _, ⟨born, clk, (hC.block M (heap_lt hm) hMD).trans hm, hb⟩, (hC.block F (heap_lt hF1) hDF).trans hF1, hC⟩
    generalize (w1.drewN (nq + 1)).setCell ⟨D, 2, none⟩ (.int .i64 3) = W at *
    clear d0 d1 d2 f0 f1 rf qf qf1 hlk hF1 hM1 hD1
    obtain ⟨d0, d1, d2⟩ := hD2.cells
    obtain ⟨f0, f1⟩ := hF2.cells
    have qf : W.frozen? ⟨F, 0, none⟩ = false := by unfold FAt at hF2; simp [World.frozen?, hF2]
    have qf1 : W.frozen? ⟨F, 1, none⟩ = false := by unfold FAt at hF2; simp [World.frozen?, hF2]
    go_wp2_with (fail)
    rw [rounds_succ]
    go_wp2_with (fail)
    (first | go_end0 | ((try simp only [Exit.inBlock, Exit.then]); refine bodyPost_ret (results_none rfl _ _ _) rfl ?_))
    have hFD : F ≠ D := fun e => by unfold DAt at hD2; unfold FAt at hF2; rw [e, hD2] at hF2; simp at hF2
    obtain ⟨born, clk, hm, hb⟩ := hM2
    have hFM : M ≠ F := fun e => by unfold FAt at hF2; rw [e, hF2] at hm; cases hm
    have hC3 := ((Chg.refl (fun k => k = F) W).set ⟨F, 0, none⟩ (.slice (some ⟨g, 0, none⟩) 3 3) rfl).set ⟨F, 1, none⟩ (.int .i64 3) rfl
    have hF3 : FAt (W.setCell ⟨F, 0, none⟩ (.slice (some ⟨g, 0, none⟩) 3 3)) F (some ⟨g, 0, none⟩) 3 3 2 := Go.Joins.block_setCell hF2 _
    exact ⟨rfl, Go.Joins.block_setCell hF3 _, ⟨born, clk, (hC3.block M (heap_lt hm) hFM).trans hm, hb⟩, (hC3.block D (heap_lt hD2) hFD.symm).trans hD2, (hC1.trans hC2 (U := fun k => k = D) (fun _ _ e => e.elim) (fun _ _ e => e)).trans hC3 (fun _ _ e => .inl e) (fun _ _ e => .inr e)⟩)
end Go.Proofs.Ytkdbojaoaldmbaa.D

/- Walks of the disk by hand: Read of a file of three bytes. -/
namespace Go.Proofs.Ytkdbojaoaldmbaa.D
open Go.RowKit Go.Proofs.Ytkdbojaoaldmbaa.Q Go.Proofs.YtkdbojaoaldmbaaW.PrintWords Go.Proofs.YtkdbojaoaldmbaaW.PrintLast Go.Proofs.YtkdbojaoaldmbaaW.PrintMore
set_option linter.unusedVariables false
set_option linter.unusedSimpArgs false

theorem row_cell {w : World} {g : Nat} {c : Nat} {xs : List Int} (h : RowAt w (some ⟨g, 0, none⟩) c xs) (i : Nat) (x : Int) (hi : xs[i]? = some x) : w.cell? ⟨g, i, none⟩ = some (.int .u8 x) := by
  rcases h.2.2 with ⟨e, _⟩ | ⟨g', cur, fz, e, hb, ht⟩
  · cases e
  · cases e
    have hlt : i < xs.length := by
      rcases Nat.lt_or_ge i xs.length with h | h
      · exact h
      · rw [List.getElem?_eq_none h] at hi; cases hi
    have h0 : cur.toList[i]? = some (.int .u8 x) := by
      have : (cur.toList.take xs.length)[i]? = some (.int .u8 x) := by rw [ht]; simp [u8s, hi]
      rwa [List.getElem?_take, if_pos hlt] at this
    simp only [World.cell?, hb]
    simpa using h0
set_option maxHeartbeats 1000000 in
set_option maxRecDepth 100000 in
theorem read_calls (D M F g c : Nat) (room size lasts : Int) (x y z : Int) (w : World) (h : DAt w D M room size) (hM : MOne w M F) (hF : FAt w F (some ⟨g, 0, none⟩) 3 c lasts) (hR : RowAt w (some ⟨g, 0, none⟩) c [x, y, z]) :
    Calls Try.prog 13 #[.pointer (some ⟨D, 0, none⟩), .string nm] w fun e w' => ∃ g' c', e = .returned (.tuple #[.slice (some ⟨g', 0, none⟩) 3 c', .int .i64 0]) ∧ w'.cell? ⟨g', 0, none⟩ = some (.int .u8 x) ∧ w'.cell? ⟨g', 1, none⟩ = some (.int .u8 y) ∧ w'.cell? ⟨g', 2, none⟩ = some (.int .u8 z) ∧ Chg (fun _ => False) w w' := by
  obtain ⟨c0, c1, c2⟩ := h.cells
  obtain ⟨f0, f1⟩ := hF.cells
  have x0 := row_cell hR 0 x rfl
  have x1 := row_cell hR 1 y rfl
  have x2 := row_cell hR 2 z rfl
  have f0a := fun o => Go.Lib.cell?_alloc_some (W := w) o f0
  have x0a := fun o => Go.Lib.cell?_alloc_some (W := w) o x0
  have x1a := fun o => Go.Lib.cell?_alloc_some (W := w) o x1
  have x2a := fun o => Go.Lib.cell?_alloc_some (W := w) o x2
  have hcap : Builtin.nextslicecap 3 0 = 3 := by decide
  have hby : Try.t5.bytes = 1 := rfl
  go_enter Try.func13, Try.ntmps13
  go_wp2_with (go_at_call 33; (with_reducible refine (find_calls D M F room size _ h hM).mono ?_); rintro e w' ⟨rfl, rfl⟩)
  go_ret2
  have hb := fun zs => (blk2 w' (.cells #[] 5) (.cells (#[.int .u8 x, .int .u8 y, .int .u8 z] ++ zs) 5)).1
  have hc : ∀ (zs : Array Value) (i : Nat), i < 3 → (((w'.alloc (.cells #[] 5)).alloc (.cells (#[.int .u8 x, .int .u8 y, .int .u8 z] ++ zs) 5)).drew).cell? ⟨w'.heap.size + 1, i, none⟩ = #[Value.int .u8 x, .int .u8 y, .int .u8 z][i]? := fun zs i hi => by
    show (match ((w'.alloc (.cells #[] 5)).alloc (.cells (#[.int .u8 x, .int .u8 y, .int .u8 z] ++ zs) 5)).heap[w'.heap.size + 1]? with | some (.cells c _ _) => c[i]? | _ => none) = _
    rw [hb]
    simp [Array.getElem?_append, hi]
  have hC := ((Chg.refl (fun _ => False) w').alloc (.cells #[] 5)).alloc (.cells (#[.int .u8 x, .int .u8 y, .int .u8 z] ++ (Builtin.zeroCells #[.int .u8 0] ((Question.appendCap 3 0 5).cut (w'.tape w'.drawn (Question.appendCap 3 0 5)) - 3))) 5)
  exact ⟨_, _, rfl, hc _ 0 (by decide), hc _ 1 (by decide), hc _ 2 (by decide), ⟨hC.os, hC.tape, hC.output, hC.size, hC.block⟩⟩
end Go.Proofs.Ytkdbojaoaldmbaa.D

/- Walks of the disk by hand: the chapter's example. -/
namespace Go.Proofs.Ytkdbojaoaldmbaa.D
open Go.RowKit Go.Proofs.Ytkdbojaoaldmbaa.Q Go.Proofs.YtkdbojaoaldmbaaW.PrintWords Go.Proofs.YtkdbojaoaldmbaaW.PrintLast Go.Proofs.YtkdbojaoaldmbaaW.PrintMore
set_option linter.unusedVariables false
set_option linter.unusedSimpArgs false

theorem Chg.onto {S : Nat → Prop} {w w' w'' : World} {B : Nat} (hb : Below B w w') (hB : B ≤ w.heap.size) (hc : Chg S w' w'') (hS : ∀ k, S k → B ≤ k) : Below B w w'' := by
  obtain ⟨h1, h2, h3, h4, h5⟩ := hb
  exact ⟨hc.os.trans h1, hc.tape.trans h2, hc.output.trans h3, Nat.le_trans h4 hc.size, fun k hk => (hc.block k (Nat.lt_of_lt_of_le hk (Nat.le_trans hB h4)) (fun hs => by have := hS k hs; omega)).trans (h5 k hk)⟩
theorem MNil.chg {S : Nat → Prop} {w w' : World} {M : Nat} (h : MNil w M) (hC : Chg S w w') (hn : ¬ S M) : MNil w' M := by
  obtain ⟨clk, hm⟩ := h
  exact ⟨clk, (hC.block M (heap_lt hm) hn).trans hm⟩
theorem alloc_chg (w : World) (o : Obj) : Chg (fun _ => False) w (w.alloc o) := (Chg.refl _ w).alloc o
theorem lit_row (w : World) (x y : Int) (fz : Nat × Nat) : RowAt (w.alloc (.cells #[.int .u8 x, .int .u8 y] 5 fz)) (some ⟨w.heap.size, 0, none⟩) 2 [x, y] :=
  ⟨Nat.le_refl _, (show (2 : Nat) ≤ 100000 by decide), .inr ⟨w.heap.size, #[.int .u8 x, .int .u8 y], fz, rfl, heap_alloc_new w _, rfl⟩⟩
theorem RowAt.addr {w : World} {A : Option Addr} {c : Nat} {x : Int} {xs : List Int} (h : RowAt w A c (x :: xs)) : ∃ g, A = some ⟨g, 0, none⟩ := by
  rcases h.2.2 with ⟨_, e, _⟩ | ⟨g, _, _, e, _⟩
  · cases e
  · exact ⟨g, e⟩
theorem RowAt.chgD {w w' : World} {A : Option Addr} {c : Nat} {xs : List Int} {S : Nat → Prop} {D M F : Nat} {room size : Int} {B : Option Addr} {n cb : Nat} {lasts : Int} (h : RowAt w A c xs) (hc : Chg S w w') (hD : DAt w D M room size) (hF : FAt w F B n cb lasts) (hS : ∀ k, S k → k = D ∨ k = F) : RowAt w' A c xs :=
  h.chg hc fun k hk cur fz hb => by
    rcases hS k hk with rfl | rfl
    · unfold DAt at hD; rw [hD] at hb; cases hb
    · unfold FAt at hF; rw [hF] at hb; cases hb
theorem RowAt.le4 {w : World} {A : Option Addr} {c : Nat} {x y z u : Int} (h : RowAt w A c [x, y, z, u]) : 4 ≤ c := h.1
theorem RowAt.first3 {w : World} {A : Option Addr} {c : Nat} {x y z u : Int} (h : RowAt w A c [x, y, z, u]) : RowAt w A 3 [x, y, z] := by
  refine ⟨Nat.le_refl _, (show (3 : Nat) ≤ 100000 by decide), ?_⟩
  rcases h.2.2 with ⟨_, e, _⟩ | ⟨g, cur, fz, e, hb, ht⟩
  · cases e
  · refine .inr ⟨g, cur, fz, e, hb, ?_⟩
    have := congrArg (List.take 3) ht
    rwa [List.take_take] at this
theorem append_new' (D M G : Nat) (c : Nat) (x y : Int) (w : World) (h : DAt w D M 100 0) (hM : MNil w M) (hx : RowAt w (some ⟨G, 0, none⟩) c [x, y]) :
    Calls Try.prog 20 #[.pointer (some ⟨D, 0, none⟩), .string ⟨#[102]⟩, .slice (some ⟨G, 0, none⟩) 2 c] w fun e w' => e = .returned (.int .i64 0) ∧
      ∃ F g c1, w.heap.size ≤ F ∧ FAt w' F (some ⟨g, 0, none⟩) 2 c1 0 ∧ MOne w' M F ∧ DAt w' D M 100 2 ∧ RowAt w' (some ⟨g, 0, none⟩) c1 [x, y] ∧ Chg (fun k => k = D ∨ k = M) w w' :=
  (append_new D M G c x y w h hM hx).mono fun e w' ⟨e1, F, A1, c1, h1, h2, h3, h4, h5, h6⟩ => by
    obtain ⟨g, rfl⟩ := h5.addr
    exact ⟨e1, F, g, c1, h1, h2, h3, h4, h5, h6⟩
theorem append_more' (D M F G g : Nat) (c c1 : Nat) (a b x y lasts : Int) (w : World) (h : DAt w D M 100 2) (hM : MOne w M F) (hF : FAt w F (some ⟨g, 0, none⟩) 2 c1 lasts) (hg : RowAt w (some ⟨g, 0, none⟩) c1 [a, b]) (hx : RowAt w (some ⟨G, 0, none⟩) c [x, y]) :
    Calls Try.prog 20 #[.pointer (some ⟨D, 0, none⟩), .string ⟨#[102]⟩, .slice (some ⟨G, 0, none⟩) 2 c] w fun e w' => e = .returned (.int .i64 0) ∧
      ∃ g1 c2, FAt w' F (some ⟨g1, 0, none⟩) 4 c2 lasts ∧ MOne w' M F ∧ DAt w' D M 100 4 ∧ RowAt w' (some ⟨g1, 0, none⟩) c2 [a, b, x, y] ∧ Chg (fun k => k = D ∨ k = F) w w' :=
  (append_more D M F G g c c1 a b x y lasts w h hM hF hg hx).mono fun e w' ⟨e1, A1, c2, h2, h3, h4, h5, h6⟩ => by
    obtain ⟨g, rfl⟩ := h5.addr
    exact ⟨e1, g, c2, h2, h3, h4, h5, h6⟩
theorem sync_calls' (D M F : Nat) (room size : Int) (A : Option Addr) (n c : Nat) (lasts : Int) (w : World) (h : DAt w D M room size) (hM : MOne w M F) (hF : FAt w F A n c lasts) :
    Calls Try.prog 21 #[.pointer (some ⟨D, 0, none⟩), .string ⟨#[102]⟩] w fun e w' => e = .returned (.int .i64 0) ∧ FAt w' F A n c n ∧ Chg (fun k => k = F) w w' := sync_calls D M F room size A n c lasts w h hM hF
theorem read_calls' (D M F g c : Nat) (room size lasts : Int) (x y z : Int) (w : World) (h : DAt w D M room size) (hM : MOne w M F) (hF : FAt w F (some ⟨g, 0, none⟩) 3 c lasts) (hR : RowAt w (some ⟨g, 0, none⟩) c [x, y, z]) :
    Calls Try.prog 13 #[.pointer (some ⟨D, 0, none⟩), .string ⟨#[102]⟩] w fun e w' => ∃ g' c', e = .returned (.tuple #[.slice (some ⟨g', 0, none⟩) 3 c', .int .i64 0]) ∧ w'.cell? ⟨g', 0, none⟩ = some (.int .u8 x) ∧ w'.cell? ⟨g', 1, none⟩ = some (.int .u8 y) ∧ w'.cell? ⟨g', 2, none⟩ = some (.int .u8 z) ∧ Chg (fun _ => False) w w' := read_calls D M F g c room size lasts x y z w h hM hF hR
theorem conv3 {w : World} {g : Nat} (c : Nat) (x0 : w.cell? ⟨g, 0, none⟩ = some (.int .u8 97)) (x1 : w.cell? ⟨g, 1, none⟩ = some (.int .u8 98)) (x2 : w.cell? ⟨g, 2, none⟩ = some (.int .u8 99)) :
    (convert 29 9 (.slice (some ⟨g, 0, none⟩) 3 c)).run Try.prog w = .ok (.string ⟨#[97, 98, 99]⟩) w :=
  run_convert_bytes_arg w 29 5 Try.underlying29 Try.underlying5 g 0 3 c [97, 98, 99] rfl (fun i hi => by
    match i, hi with
    | 0, _ => exact x0
    | 1, _ => exact x1
    | 2, _ => exact x2) 9 Try.underlying9
set_option maxHeartbeats 1000000 in
set_option maxRecDepth 100000 in
theorem live_calls (w : World) : Calls Try.prog 9 #[] w fun e w' => e = .returned (.bool true) ∧ Below w.heap.size w w' := by
  have kc := fun (w : World) (C : Array Value) (n c g : Nat) (hg : g = w.heap.size) => Go.Joins.run_convert_bytes_const_at (P := Try.prog) w 29 5 C n c g hg Try.underlying29 Try.underlying5
  go_enter Try.func9, Try.ntmps9
  go_wp2_with (first
    | (go_at_call 8; (with_reducible refine (new_calls _).mono ?_); rintro e w1 ⟨D, M, rfl, hDge, hMge, hD1, hM1, hC1⟩)
    | (go_at_call 20; (with_reducible refine (append_new' D M _ 2 97 98 _ (hD1.chg (alloc_chg _ _) id) (hM1.chg (alloc_chg _ _) id) (lit_row _ _ _ _)).mono ?_); rintro e w2 ⟨rfl, F, g1, c1, hFge, hF2, hM2, hD2, hR2, hC2⟩)
    | (go_at_call 21; (with_reducible refine (sync_calls' D M F 100 2 _ 2 _ 0 _ hD2 hM2 hF2).mono ?_); rintro e w3 ⟨rfl, hF3, hC3⟩; have hDF : D ≠ F := (fun e => by unfold DAt at hD2; unfold FAt at hF2; rw [e, hF2] at hD2; simp at hD2); have hMF : ¬ M = F := (fun e => by obtain ⟨_, _, hm, _⟩ := hM2; unfold FAt at hF2; rw [e, hF2] at hm; cases hm); have hD3 := hD2.chg hC3 hDF; have hM3 := hM2.chg hC3 hMF; have hR3 := hR2.chgD hC3 hD2 hF2 (fun _ e => .inr e))
    | (go_at_call 20; (with_reducible refine (append_more' D M F _ g1 2 c1 97 98 99 100 2 _ (hD3.chg (alloc_chg _ _) id) (hM3.chg (alloc_chg _ _) id) (hF3.chg (alloc_chg _ _) id) (hR3.chgD (alloc_chg _ _) hD3 hF3 (fun _ e => e.elim)) (lit_row _ _ _ _)).mono ?_); rintro e w4 ⟨rfl, g4, c4, hF4, hM4, hD4, hR4, hC4⟩)
    | (go_at_call 17; (with_reducible refine (crash_calls D M F g4 c4 _ hD4 hM4 hF4 hR4.le4).mono ?_); rintro e w5 ⟨rfl, hF5, hM5, hD5, hC5⟩; have hR5 := (hR4.chgD hC5 hD4 hF4 (fun _ e => e)).first3)
    | (go_at_call 13; (with_reducible refine (read_calls' D M F g4 3 100 3 3 97 98 99 _ hD5 hM5 hF5 hR5).mono ?_); rintro e w6 ⟨g6, c6, rfl, x0, x1, x2, hC6⟩; have hcv := conv3 c6 x0 x1 x2)
    | (go_at_call 19; (with_reducible refine (size_calls D M 100 3 _ (hD5.chg hC6 id)).mono ?_); rintro e w7 ⟨rfl, rfl⟩))
  go_ret
  have b1 := hC1.onto (B := w.heap.size) (Below.refl _ _) (Nat.le_refl _) (fun _ e => e.elim)
  have b2 := (alloc_chg w1 (.cells #[.int .u8 97, .int .u8 98] 5 (2, 3))).onto b1 (Nat.le_refl _) (fun _ e => e.elim)
  have b3 := hC2.onto b2 (Nat.le_refl _) (fun k e => by rcases e with rfl | rfl <;> assumption)
  have hFge2 : w.heap.size ≤ F := Nat.le_trans b2.size hFge
  have b4 := hC3.onto b3 (Nat.le_refl _) (fun k e => by rcases e with rfl; exact hFge2)
  have b5 := (alloc_chg w3 (.cells #[.int .u8 99, .int .u8 100] 5 (2, 3))).onto b4 (Nat.le_refl _) (fun _ e => e.elim)
  have b6 := hC4.onto b5 (Nat.le_refl _) (fun k e => by rcases e with rfl | rfl <;> assumption)
  have b7 := hC5.onto b6 (Nat.le_refl _) (fun k e => by rcases e with rfl | rfl <;> assumption)
  exact ⟨rfl, hC6.onto b7 (Nat.le_refl _) (fun _ e => e.elim)⟩
end Go.Proofs.Ytkdbojaoaldmbaa.D
