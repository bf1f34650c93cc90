/- Walks of the disk by hand: a list of one name is sorted. -/
import Derived.Test.YtkdbojaoaldmbaaD1
import Derived.Test.YtkdbojaoaldmbaaQ0
import Derived.LoopN
import Derived.Maps.RangeWalk
namespace Go.Proofs.Ytkdbojaoaldmbaa.D
open Go.RowKit Go.Proofs.Ytkdbojaoaldmbaa.Q Go.Proofs.YtkdbojaoaldmbaaW.PrintWords Go.Proofs.YtkdbojaoaldmbaaW.PrintLast Go.Proofs.YtkdbojaoaldmbaaW.PrintMore
set_option linter.unusedVariables false
set_option linter.unusedSimpArgs false

set_option maxHeartbeats 400000 in
set_option maxRecDepth 100000 in
theorem len64_one (w : World) : Calls Try.prog 58 #[.int .u64 1] w fun e w' => e = .returned (.int .i64 1) ∧ Drawn0 w w' := by
  go_enter Try.func58, Try.ntmps58
  go_wp2
  go_ret
  exact ⟨by kernel_rfl, 0, rfl⟩
set_option maxHeartbeats 400000 in
set_option maxRecDepth 100000 in
theorem len_one (w : World) : Calls Try.prog 44 #[.int .u64 1] w fun e w' => e = .returned (.int .i64 1) ∧ Drawn0 w w' := by
  go_enter Try.func44, Try.ntmps44
  go_wp2_with (go_at_call 58; (with_reducible refine (len64_one _).mono ?_); rintro e w' ⟨rfl, ⟨nd, rfl⟩⟩)
  go_ret
  exact ⟨rfl, nd, rfl⟩
set_option maxHeartbeats 400000 in
set_option maxRecDepth 100000 in
theorem ins_one (A : Option Addr) (cap : Nat) (w : World) : Calls Try.prog 48 #[.slice A 1 cap, .int .i64 0, .int .i64 1] w fun e w' => e = .returned (.tuple #[]) ∧ Drawn0 w w' := by
  go_enter Try.func48, Try.ntmps48
  go_wp2
  refine wp_loop_rounds 1 ?_
  rw [rounds_succ]
  go_wp2
  (first | go_end0 | ((try simp only [Exit.inBlock, Exit.then]); refine bodyPost_ret (results_none rfl _ _ _) rfl ?_))
  exact ⟨rfl, 0, rfl⟩
set_option maxHeartbeats 400000 in
set_option maxRecDepth 100000 in
theorem pdq_one (A : Option Addr) (cap : Nat) (w : World) : Calls Try.prog 43 #[.slice A 1 cap, .int .i64 0, .int .i64 1, .int .i64 1] w fun e w' => e = .returned (.tuple #[]) ∧ Drawn0 w w' := by
  go_enter Try.func43, Try.ntmps43
  go_wp2
  refine wp_loop_rounds 1 ?_
  rw [rounds_succ]
  go_wp2_with (go_at_call 48; (with_reducible refine (ins_one A cap _).mono ?_); rintro e w' ⟨rfl, ⟨nd, rfl⟩⟩)
  (first | go_end0 | ((try simp only [Exit.inBlock, Exit.then]); refine bodyPost_ret (results_none rfl _ _ _) rfl ?_))
  exact ⟨rfl, nd, rfl⟩
set_option maxHeartbeats 400000 in
set_option maxRecDepth 100000 in
theorem sort_one (A : Option Addr) (cap : Nat) (w : World) : Calls Try.prog 31 #[.slice A 1 cap] w fun e w' => e = .returned (.tuple #[]) ∧ Drawn0 w w' := by
  go_enter Try.func31, Try.ntmps31
  go_wp2_with (first
    | (go_at_call 44; (with_reducible refine (len_one _).mono ?_); rintro e w' ⟨rfl, ⟨nd, rfl⟩⟩)
    | (go_at_call 43; (with_reducible refine (pdq_one A cap _).mono ?_); rintro e w' ⟨rfl, ⟨ne, rfl⟩⟩))
  (first | go_end0 | ((try simp only [Exit.inBlock, Exit.then]); refine bodyPost_ret (results_none rfl _ _ _) rfl ?_))
  exact ⟨rfl, by repeat (first | exact Drawn0.refl _ | apply Drawn0.step)⟩
theorem next_first {w : World} {M F r : Nat} {born clk : Nat} (hm : w.heap[M]? = some (.map #[⟨.string nm, .pointer (some ⟨F, 0, none⟩), born⟩] clk)) (hbc : born < clk) (hr : w.heap[r]? = some (.mapIter (some M) clk #[] clk)) (ty : TypeId) :
    (Instr.next (.pointer (some ⟨r, 0, none⟩)) false ty).run Try.prog w = .ok (.tuple #[.bool true, .string nm, .pointer (some ⟨F, 0, none⟩)]) (Go.ChangeMaps.setBlock w r (.mapIter (some M) clk #[born] clk)) ∨
    (Instr.next (.pointer (some ⟨r, 0, none⟩)) false ty).run Try.prog w = .ok (.tuple #[.bool true, .string nm, .pointer (some ⟨F, 0, none⟩)]) (Go.ChangeMaps.setBlock w.drew r (.mapIter (some M) clk #[born] clk)) := by
  rcases run_next_at (P := Try.prog) w ty r M clk clk #[] _ clk hr hm (by intro x hx; simp at hx; subst hx; exact hbc) (Nat.le_refl _) with ⟨h0, _⟩ | ⟨e, he, w1, h1, h2⟩
  · simp [leftOf] at h0
  · simp [leftOf] at he
    subst he
    rcases h1 with rfl | rfl
    · exact .inl h2
    · exact .inr h2
theorem next_none {w : World} {M F r : Nat} {born clk : Nat} (hm : w.heap[M]? = some (.map #[⟨.string nm, .pointer (some ⟨F, 0, none⟩), born⟩] clk)) (hbc : born < clk) (hr : w.heap[r]? = some (.mapIter (some M) clk #[born] clk)) (ty : TypeId) :
    (Instr.next (.pointer (some ⟨r, 0, none⟩)) false ty).run Try.prog w = .ok (.tuple #[.bool false]) w := by
  rcases run_next_at (P := Try.prog) w ty r M clk clk #[born] _ clk hr hm (by intro x hx; simp at hx; subst hx; exact hbc) (Nat.le_refl _) with ⟨_, h0⟩ | ⟨e, he, w1, h1, h2⟩
  · exact h0
  · simp [leftOf] at he
theorem entry_first {w : World} {M F r : Nat} {born clk : Nat} (hm : w.heap[M]? = some (.map #[⟨.string nm, .pointer (some ⟨F, 0, none⟩), born⟩] clk)) (hr : w.heap[r]? = some (.mapIter (some M) clk #[born] clk)) :
    (Instr.entry (.pointer (some ⟨r, 0, none⟩))).run Try.prog w = .ok (.tuple #[.string nm, .pointer (some ⟨F, 0, none⟩)]) w :=
  run_entry_at (P := Try.prog) w r M clk #[] _ clk ⟨.string nm, .pointer (some ⟨F, 0, none⟩), born⟩ hr hm (by simp) (by simp)
end Go.Proofs.Ytkdbojaoaldmbaa.D
