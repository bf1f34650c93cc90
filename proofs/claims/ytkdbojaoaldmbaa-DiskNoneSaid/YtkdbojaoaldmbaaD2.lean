/- Walks of the disk by hand: making one, its size, and Sync. -/
import Derived.Test.YtkdbojaoaldmbaaD1
namespace Go.Proofs.Ytkdbojaoaldmbaa.D
open Go.RowKit Go.Proofs.YtkdbojaoaldmbaaW.PrintWords Go.Proofs.YtkdbojaoaldmbaaW.PrintLast Go.Proofs.YtkdbojaoaldmbaaW.PrintMore
set_option linter.unusedVariables false
set_option linter.unusedSimpArgs false

set_option maxHeartbeats 400000 in
set_option maxRecDepth 100000 in
theorem size_calls (D M : Nat) (room size : Int) (w : World) (h : DAt w D M room size) : Calls Try.prog 19 #[.pointer (some ⟨D, 0, none⟩)] w fun e w' => e = .returned (.int .i64 size) ∧ w' = w := by
  obtain ⟨c0, c1, c2⟩ := h.cells
  go_enter Try.func19, Try.ntmps19
  go_wp2_with (go_at_call 30; (with_reducible refine (ok_calls D M w c0).mono ?_); rintro e w' ⟨rfl, rfl⟩)
  go_ret
  exact ⟨rfl, rfl⟩
set_option maxHeartbeats 400000 in
set_option maxRecDepth 100000 in
theorem new_calls (w : World) : Calls Try.prog 8 #[.int .i64 100] w fun e w' => ∃ D M : Nat, e = .returned (.tuple #[.pointer (some ⟨D, 0, none⟩), .int .i64 0]) ∧ w.heap.size ≤ D ∧ w.heap.size ≤ M ∧ DAt w' D M 100 0 ∧ MNil w' M ∧ Chg (fun _ => False) w w' := by
  have hmm := @run_makeMap Try.prog
  go_enter Try.func8, Try.ntmps8
  go_wp2
  go_ret2
  exact ⟨w.heap.size + 1, w.heap.size, rfl, by omega, Nat.le_refl _, (blk2 w _ _).1, ⟨0, (blk2 w _ _).2⟩, ((Chg.refl _ w).alloc _).alloc _⟩
set_option maxHeartbeats 400000 in
set_option maxRecDepth 100000 in
theorem sync_calls (D M F : Nat) (room size : Int) (A : Option Addr) (n c : Nat) (lasts : Int) (w : World) (h : DAt w D M room size) (hM : MOne w M F) (hF : FAt w F A n c lasts) :
    Calls Try.prog 21 #[.pointer (some ⟨D, 0, none⟩), .string nm] w fun e w' => e = .returned (.int .i64 0) ∧ FAt w' F A n c n ∧ Chg (fun k => k = F) w w' := by
  obtain ⟨f0, f1⟩ := hF.cells
  have hfz : w.frozen? ⟨F, 1, none⟩ = false := by unfold FAt at hF; simp [World.frozen?, hF]
  go_enter Try.func21, Try.ntmps21
  go_wp2_with (go_at_call 33; (with_reducible refine (find_calls D M F room size w h hM).mono ?_); rintro e w' ⟨rfl, rfl⟩)
  go_ret
  exact ⟨rfl, Go.Joins.block_setCell hF _, (Chg.refl _ _).set _ _ rfl⟩
end Go.Proofs.Ytkdbojaoaldmbaa.D
