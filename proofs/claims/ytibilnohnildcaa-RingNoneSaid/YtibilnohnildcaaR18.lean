/- A ring that no call made; the law RingNone. -/
import Derived.Test.YtibilnohnildcaaR17
namespace Go.Proofs.Ytibilnohnildcaa.R
open Go.RowKit Go.Proofs.Ytibilnohnildcaa.Q Go.Proofs.YtibilnohnildcaaW.PrintWords Go.Proofs.YtibilnohnildcaaW.PrintLast Go.Proofs.YtibilnohnildcaaW.PrintMore
set_option linter.unusedVariables false
set_option linter.unusedSimpArgs false
/-- No ring: no pointer, or one to a ring of no nodes. -/
def NoRing (w : World) (p : Option Addr) : Prop := p = none ∨ ∃ g, p = some ⟨g, 0, none⟩ ∧ w.heap[g]? = some (.cells #[.int .i64 0, .slice none 0 0] 49 (0, 0))
theorem no_is {w : World} {p : Option Addr} (h : NoRing w p) : Calls Try.prog 27 #[.pointer p] w fun e w' => e = .returned (.bool false) ∧ w' = w := by
  rcases h with rfl | ⟨g, rfl, h⟩
  · go_enter Try.func27, Try.ntmps27
    go_wp2
    go_ret
    exact ⟨rfl, rfl⟩
  · have c0 : w.cell? ⟨g, 0, none⟩ = some (.int .i64 0) := (blk_cell h 0).trans rfl
    clear h
    go_enter Try.func27, Try.ntmps27
    go_wp2
    go_ret
    exact ⟨rfl, rfl⟩
theorem no_nodes {w : World} {p : Option Addr} (h : NoRing w p) : Calls Try.prog 22 #[.pointer p] w fun e w' => e = .returned (.int .i64 0) ∧ w' = w := by
  have HR := Aside0.mk h
  clear h
  go_enter Try.func22, Try.ntmps22
  go_wp2_with (go_at_call 27; (with_reducible refine (no_is HR.out).mono ?_); rintro e w9 ⟨rfl, h9⟩; subst w9)
  go_ret
  exact ⟨rfl, rfl⟩
theorem no_owner {w : World} {p : Option Addr} (h : NoRing w p) (q : Int) : Calls Try.prog 23 #[.pointer p, .int .u64 q] w fun e w' => e = .returned (.int .i64 (-1)) ∧ w' = w := by
  have HR := Aside0.mk h
  clear h
  go_enter Try.func23, Try.ntmps23
  go_wp2_with (go_at_call 27; (with_reducible refine (no_is HR.out).mono ?_); rintro e w9 ⟨rfl, h9⟩; subst w9)
  go_ret
  exact ⟨rfl, rfl⟩
theorem no_sub {w : World} {p : Option Addr} (h : NoRing w p) (t : ByteArray) (q : Int) : Calls Try.prog 13 #[.pointer p, .string t, .int .i64 q] w fun e w' => e = .returned (.tuple #[.slice none 0 0, .int .i64 2]) ∧ w' = w := by
  have HR := Aside0.mk h
  clear h
  go_enter Try.func13, Try.ntmps13
  go_wp2_with (go_at_call 27; (with_reducible refine (no_is HR.out).mono ?_); rintro e w9 ⟨rfl, h9⟩; subst w9)
  go_ret2
  exact ⟨rfl, rfl⟩
theorem no_replicas {w : World} {p : Option Addr} (h : NoRing w p) (A : Option Addr) (n c : Nat) (q : Int) : Calls Try.prog 16 #[.pointer p, .slice A n c, .int .u64 q] w fun e w' => e = .returned (.tuple #[.slice none 0 0, .int .i64 2]) ∧ w' = w := by
  have HR := Aside0.mk h
  clear h
  go_enter Try.func16, Try.ntmps16
  go_wp2_with (go_at_call 27; (with_reducible refine (no_is HR.out).mono ?_); rintro e w9 ⟨rfl, h9⟩; subst w9)
  go_ret2
  exact ⟨rfl, rfl⟩
theorem no_nil (w : World) : NoRing w none := .inl rfl
theorem no_new (w : World) : NoRing (w.alloc (.cells #[.int .i64 0, .slice none 0 0] 49)) (some ⟨w.heap.size, 0, none⟩) := .inr ⟨_, rfl, heap_alloc_new _ _⟩
set_option maxHeartbeats 4000000 in
set_option maxRecDepth 100000 in
theorem none_law (a0 : ByteArray) (A1 : Option Addr) (n1 c1 : Nat) (a2 : Int) (w : World) : Calls Try.prog 9 #[.string a0, .slice A1 n1 c1, .int .u64 a2] w fun e w' => e = .returned (.bool true) ∧ Below w.heap.size w w' := by
  by_cases hs : (a0.size : Int) > 300
  · go_enter Try.func9, Try.ntmps9
    go_wp2_with (first
      | (go_at_call 10; (with_reducible refine (live_calls _).mono ?_); rintro e w2 ⟨rfl, hb⟩; have HB2 := Aside0.mk (below_step HB1.out hb); clear hb)
      | (go_at_call 10; (with_reducible refine (live_calls _).mono ?_); rintro e w1 ⟨rfl, hb⟩; have HB1 := Aside0.mk hb; clear hb))
    go_ret
    exact ⟨rfl, HB2.out⟩
  by_cases hl : (n1 : Int) > 100
  · go_enter Try.func9, Try.ntmps9
    go_wp2_with (first
      | (go_at_call 10; (with_reducible refine (live_calls _).mono ?_); rintro e w2 ⟨rfl, hb⟩; have HB2 := Aside0.mk (below_step HB1.out hb); clear hb)
      | (go_at_call 10; (with_reducible refine (live_calls _).mono ?_); rintro e w1 ⟨rfl, hb⟩; have HB1 := Aside0.mk hb; clear hb))
    go_ret
    exact ⟨rfl, HB2.out⟩
  go_enter Try.func9, Try.ntmps9
  go_wp2_with (first
      | (go_at_call 10; (with_reducible refine (live_calls _).mono ?_); rintro e w2 ⟨rfl, hb⟩; have HB2 := Aside0.mk (below_step HB1.out hb); clear hb)
      | (go_at_call 10; (with_reducible refine (live_calls _).mono ?_); rintro e w1 ⟨rfl, hb⟩; have HB1 := Aside0.mk hb; clear hb)
      | (go_at_call 13; (with_reducible refine (no_sub (no_nil _) _ _).mono ?_); rintro e w3 ⟨rfl, h9⟩; subst h9)
      | (go_at_call 16; (with_reducible refine (no_replicas (no_new _) _ _ _ _).mono ?_); rintro e w4 ⟨rfl, h9⟩; subst h9)
      | (go_at_call 22; (with_reducible refine (no_nodes (no_nil _)).mono ?_); rintro e w5 ⟨rfl, h9⟩; subst h9)
      | (go_at_call 22; (with_reducible refine (no_nodes (no_new _)).mono ?_); rintro e w6 ⟨rfl, h9⟩; subst h9)
      | (go_at_call 23; (with_reducible refine (no_owner (no_nil _) _).mono ?_); rintro e w7 ⟨rfl, h9⟩; subst h9)
      | (go_at_call 23; (with_reducible refine (no_owner (no_new _) _).mono ?_); rintro e w8 ⟨rfl, h9⟩; subst h9))
  go_ret
  exact ⟨rfl, below_alloc HB1.out _⟩
end Go.Proofs.Ytibilnohnildcaa.R
