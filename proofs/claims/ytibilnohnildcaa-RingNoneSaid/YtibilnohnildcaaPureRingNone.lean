/- RingNone: the pure statement, without program and memory. -/
import Derived.Test.YtibilnohnildcaaQ90
import Derived.Test.YtibilnohnildcaaRT
namespace Go.Proofs.Ytibilnohnildcaa.Pure
open Go.RowKit Go.Proofs.Ytibilnohnildcaa.Q Go.Proofs.YtibilnohnildcaaW.PrintWords Go.Proofs.YtibilnohnildcaaW.PrintLast Go.Proofs.YtibilnohnildcaaW.PrintMore Go.Proofs.YtibilnohnildcaaW.RowWords

theorem RingNone : ∀ (a0 : ByteArray) (l1 : List (Int)) (a2 : Int), a0.size ≤ reach → (l1.length * 8 ≤ reach ∧ ∀ y ∈ l1, (Lit.int .i64 y).wf = true) → (Lit.int .u64 a2).wf = true → manometerlaw20_RingNone.f a0 l1 a2 = some true := by
  intro a0 l1 a2 _ _ _; rfl

end Go.Proofs.Ytibilnohnildcaa.Pure
