/- NetNone: the pure statement, without program and memory. -/
import Derived.Test.YtlnipfmgdkiboaaQ91
import Derived.Test.YtlnipfmgdkiboaaRT
namespace Go.Proofs.Ytlnipfmgdkiboaa.Pure
open Go.RowKit Go.Proofs.Ytlnipfmgdkiboaa.Q Go.Proofs.YtlnipfmgdkiboaaW.PrintWords Go.Proofs.YtlnipfmgdkiboaaW.PrintLast Go.Proofs.YtlnipfmgdkiboaaW.PrintMore Go.Proofs.YtlnipfmgdkiboaaW.RowWords

theorem NetNone : ∀ (a0_0 : Int) (a0_1 : ByteArray) (l0_2 : List (S34)) (a0_3 : Int), (Lit.int .i64 a0_0).wf = true → a0_1.size ≤ reach → (l0_2.length * 32 ≤ reach ∧ ∀ y ∈ l0_2, W34 y) → (Lit.int .i64 a0_3).wf = true → manometerlaw23_NetNone.f a0_0 a0_1 l0_2 a0_3 = some true := by
  intros
  rfl

end Go.Proofs.Ytlnipfmgdkiboaa.Pure
