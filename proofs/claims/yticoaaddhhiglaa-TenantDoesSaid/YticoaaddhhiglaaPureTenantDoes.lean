/- TenantDoes: the pure statement, without program and memory. -/
import Derived.Test.YticoaaddhhiglaaQ94
import Derived.Test.YticoaaddhhiglaaRT
namespace Go.Proofs.Yticoaaddhhiglaa.Pure
open Go.RowKit Go.Proofs.Yticoaaddhhiglaa.Q Go.Proofs.YticoaaddhhiglaaW.PrintWords Go.Proofs.YticoaaddhhiglaaW.PrintLast Go.Proofs.YticoaaddhhiglaaW.PrintMore Go.Proofs.YticoaaddhhiglaaW.RowWords

theorem TenantDoes : ∀ (l0 : List (S27)) (a1 : ByteArray) (a2 : Int), (l0.length * 112 ≤ reach ∧ ∀ y ∈ l0, W27 y) → a1.size ≤ reach → (Lit.int .i64 a2).wf = true → manometerlaw18_TenantDoes.f l0 a1 a2 = some true := by
  intros; rfl

end Go.Proofs.Yticoaaddhhiglaa.Pure
