/- RingReplicas: the pure statement, without program and memory. -/
import Derived.Test.YtibilnohnildcaaQ96
import Derived.Test.YtibilnohnildcaaRT
namespace Go.Proofs.Ytibilnohnildcaa.Pure
open Go.RowKit Go.Proofs.Ytibilnohnildcaa.Q Go.Proofs.YtibilnohnildcaaW.PrintWords Go.Proofs.YtibilnohnildcaaW.PrintLast Go.Proofs.YtibilnohnildcaaW.PrintMore Go.Proofs.YtibilnohnildcaaW.RowWords

theorem u64_of {x : Int} (h : (Lit.int .u64 x).wf = true) : Go.Proofs.Ytibilnohnildcaa.R.U64 x := by
  have h2 : IntKind.u64.min ≤ x ∧ x ≤ IntKind.u64.max := by simpa [Lit.wf] using h
  have e1 : IntKind.u64.min = 0 := by decide
  have e2 : IntKind.u64.max = 18446744073709551615 := by decide
  rw [e1, e2] at h2
  exact ⟨h2.1, by omega⟩
theorem RingReplicas : ∀ (a0 : Int) (l1 : List (Int)) (a2 : Int), (Lit.int .i64 a0).wf = true → (l1.length * 8 ≤ reach ∧ ∀ y ∈ l1, (Lit.int .i64 y).wf = true) → (Lit.int .u64 a2).wf = true → manometerlaw20_RingReplicas.f a0 l1 a2 = some true := by
  intro a0 l1 a2 _ _ h
  unfold manometerlaw20_RingReplicas.f
  rw [if_pos (u64_of h)]

end Go.Proofs.Ytibilnohnildcaa.Pure
