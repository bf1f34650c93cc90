/- RingSubs: the pure statement, without program and memory. -/
import Derived.Test.YtibilnohnildcaaQ95
import Derived.Test.YtibilnohnildcaaRT
namespace Go.Proofs.Ytibilnohnildcaa.Pure
open Go.RowKit Go.Proofs.Ytibilnohnildcaa.Q Go.Proofs.YtibilnohnildcaaW.PrintWords Go.Proofs.YtibilnohnildcaaW.PrintLast Go.Proofs.YtibilnohnildcaaW.PrintMore Go.Proofs.YtibilnohnildcaaW.RowWords

theorem RingSubs : ∀ (a0 : Int) (a1 : ByteArray) (a2 : Int), (Lit.int .i64 a0).wf = true → a1.size ≤ reach → (Lit.int .i64 a2).wf = true → manometerlaw20_RingSubs.f a0 a1 a2 = some true := by
  intros; rfl

end Go.Proofs.Ytibilnohnildcaa.Pure
