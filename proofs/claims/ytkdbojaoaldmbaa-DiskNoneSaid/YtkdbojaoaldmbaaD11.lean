/- Walks of the disk by hand: a disk that no call made. -/
import Derived.Test.YtkdbojaoaldmbaaD10
namespace Go.Proofs.Ytkdbojaoaldmbaa.D
open Go.RowKit Go.Proofs.Ytkdbojaoaldmbaa.Q Go.Proofs.YtkdbojaoaldmbaaW.PrintWords Go.Proofs.YtkdbojaoaldmbaaW.PrintLast Go.Proofs.YtkdbojaoaldmbaaW.PrintMore
set_option linter.unusedVariables false
set_option linter.unusedSimpArgs false

/-- A disk that no call made. -/
def Bad (w : World) (V : Value) : Prop := V = .pointer none ∨ ∃ Z, V = .pointer (some ⟨Z, 0, none⟩) ∧ w.cell? ⟨Z, 0, none⟩ = some (.map none)
set_option maxHeartbeats 400000 in
set_option maxRecDepth 100000 in
theorem ok_bad (V : Value) (w : World) (h : Bad w V) : Calls Try.prog 30 #[V] w fun e w' => e = .returned (.bool false) ∧ w' = w := by
  rcases h with rfl | ⟨Z, rfl, h⟩
  · go_enter Try.func30, Try.ntmps30
    go_wp2
    go_ret
    exact ⟨rfl, rfl⟩
  · have hne := map_ne0
    go_enter Try.func30, Try.ntmps30
    go_wp2
    go_ret
    exact ⟨rfl, rfl⟩
set_option maxHeartbeats 400000 in
set_option maxRecDepth 100000 in
theorem find_bad (V : Value) (s : ByteArray) (w : World) (h : Bad w V) : Calls Try.prog 33 #[V, .string s] w fun e w' => e = .returned (.tuple #[.pointer none, .int .i64 2]) ∧ w' = w := by
  go_enter Try.func33, Try.ntmps33
  go_wp2_with (go_at_call 30; (with_reducible refine (ok_bad _ _ h).mono ?_); rintro e w' ⟨rfl, rfl⟩)
  go_ret2
  exact ⟨rfl, rfl⟩
set_option maxHeartbeats 400000 in
set_option maxRecDepth 100000 in
theorem read_bad (V : Value) (s : ByteArray) (w : World) (h : Bad w V) : Calls Try.prog 13 #[V, .string s] w fun e w' => e = .returned (.tuple #[.slice none 0 0, .int .i64 2]) ∧ w' = w := by
  go_enter Try.func13, Try.ntmps13
  go_wp2_with (go_at_call 33; (with_reducible refine (find_bad _ _ _ h).mono ?_); rintro e w' ⟨rfl, rfl⟩)
  go_ret2
  exact ⟨rfl, rfl⟩
set_option maxHeartbeats 400000 in
set_option maxRecDepth 100000 in
theorem lasts_bad (V : Value) (s : ByteArray) (w : World) (h : Bad w V) : Calls Try.prog 14 #[V, .string s] w fun e w' => e = .returned (.tuple #[.int .i64 0, .int .i64 2]) ∧ w' = w := by
  go_enter Try.func14, Try.ntmps14
  go_wp2_with (go_at_call 33; (with_reducible refine (find_bad _ _ _ h).mono ?_); rintro e w' ⟨rfl, rfl⟩)
  go_ret2
  exact ⟨rfl, rfl⟩
set_option maxHeartbeats 400000 in
set_option maxRecDepth 100000 in
theorem crash_bad (V : Value) (n : Int) (w : World) (h : Bad w V) : Calls Try.prog 17 #[V, .int .i64 n] w fun e w' => e = .returned (.tuple #[]) ∧ w' = w := by
  go_enter Try.func17, Try.ntmps17
  go_wp2_with (go_at_call 30; (with_reducible refine (ok_bad _ _ h).mono ?_); rintro e w' ⟨rfl, rfl⟩)
  (first | go_end0 | ((try simp only [Exit.inBlock, Exit.then]); refine bodyPost_ret (results_none rfl _ _ _) rfl ?_))
  exact ⟨rfl, rfl⟩
set_option maxHeartbeats 400000 in
set_option maxRecDepth 100000 in
theorem append_bad (V : Value) (s : ByteArray) (b : Value) (w : World) (h : Bad w V) : Calls Try.prog 20 #[V, .string s, b] w fun e w' => e = .returned (.int .i64 2) ∧ w' = w := by
  go_enter Try.func20, Try.ntmps20
  go_wp2_with (go_at_call 30; (with_reducible refine (ok_bad _ _ h).mono ?_); rintro e w' ⟨rfl, rfl⟩)
  go_ret
  exact ⟨rfl, rfl⟩
set_option maxHeartbeats 400000 in
set_option maxRecDepth 100000 in
theorem sync_bad (V : Value) (s : ByteArray) (w : World) (h : Bad w V) : Calls Try.prog 21 #[V, .string s] w fun e w' => e = .returned (.int .i64 2) ∧ w' = w := by
  go_enter Try.func21, Try.ntmps21
  go_wp2_with (go_at_call 33; (with_reducible refine (find_bad _ _ _ h).mono ?_); rintro e w' ⟨rfl, rfl⟩)
  go_ret
  exact ⟨rfl, rfl⟩
set_option maxHeartbeats 400000 in
set_option maxRecDepth 100000 in
theorem cut_bad (V : Value) (s : ByteArray) (n : Int) (w : World) (h : Bad w V) : Calls Try.prog 27 #[V, .string s, .int .i64 n] w fun e w' => e = .returned (.int .i64 2) ∧ w' = w := by
  go_enter Try.func27, Try.ntmps27
  go_wp2_with (go_at_call 33; (with_reducible refine (find_bad _ _ _ h).mono ?_); rintro e w' ⟨rfl, rfl⟩)
  go_ret
  exact ⟨rfl, rfl⟩
set_option maxHeartbeats 400000 in
set_option maxRecDepth 100000 in
theorem remove_bad (V : Value) (s : ByteArray) (w : World) (h : Bad w V) : Calls Try.prog 22 #[V, .string s] w fun e w' => e = .returned (.int .i64 2) ∧ w' = w := by
  go_enter Try.func22, Try.ntmps22
  go_wp2_with (go_at_call 33; (with_reducible refine (find_bad _ _ _ h).mono ?_); rintro e w' ⟨rfl, rfl⟩)
  go_ret
  exact ⟨rfl, rfl⟩
set_option maxHeartbeats 400000 in
set_option maxRecDepth 100000 in
theorem swap_bad (V : Value) (s : ByteArray) (t : ByteArray) (w : World) (h : Bad w V) : Calls Try.prog 28 #[V, .string s, .string t] w fun e w' => e = .returned (.int .i64 2) ∧ w' = w := by
  go_enter Try.func28, Try.ntmps28
  go_wp2_with (go_at_call 33; (with_reducible refine (find_bad _ _ _ h).mono ?_); rintro e w' ⟨rfl, rfl⟩)
  go_ret
  exact ⟨rfl, rfl⟩
set_option maxHeartbeats 400000 in
set_option maxRecDepth 100000 in
theorem list_bad (V : Value) (w : World) (h : Bad w V) : Calls Try.prog 11 #[V] w fun e w' => e = .returned (.slice none 0 0) ∧ w' = w := by
  go_enter Try.func11, Try.ntmps11
  go_wp2_with (go_at_call 30; (with_reducible refine (ok_bad _ _ h).mono ?_); rintro e w' ⟨rfl, rfl⟩)
  go_ret
  exact ⟨rfl, rfl⟩
set_option maxHeartbeats 400000 in
set_option maxRecDepth 100000 in
theorem size_bad (V : Value) (w : World) (h : Bad w V) : Calls Try.prog 19 #[V] w fun e w' => e = .returned (.int .i64 0) ∧ w' = w := by
  go_enter Try.func19, Try.ntmps19
  go_wp2_with (go_at_call 30; (with_reducible refine (ok_bad _ _ h).mono ?_); rintro e w' ⟨rfl, rfl⟩)
  go_ret
  exact ⟨rfl, rfl⟩
set_option maxHeartbeats 400000 in
set_option maxRecDepth 100000 in
theorem room_bad (V : Value) (w : World) (h : Bad w V) : Calls Try.prog 29 #[V] w fun e w' => e = .returned (.int .i64 0) ∧ w' = w := by
  go_enter Try.func29, Try.ntmps29
  go_wp2_with (go_at_call 30; (with_reducible refine (ok_bad _ _ h).mono ?_); rintro e w' ⟨rfl, rfl⟩)
  go_ret
  exact ⟨rfl, rfl⟩
set_option maxHeartbeats 400000 in
set_option maxRecDepth 100000 in
theorem clone_bad (V : Value) (w : World) (h : Bad w V) : Calls Try.prog 16 #[V] w fun e w' => e = .returned (.pointer none) ∧ w' = w := by
  go_enter Try.func16, Try.ntmps16
  go_wp2_with (go_at_call 30; (with_reducible refine (ok_bad _ _ h).mono ?_); rintro e w' ⟨rfl, rfl⟩)
  go_ret
  exact ⟨rfl, rfl⟩
end Go.Proofs.Ytkdbojaoaldmbaa.D
