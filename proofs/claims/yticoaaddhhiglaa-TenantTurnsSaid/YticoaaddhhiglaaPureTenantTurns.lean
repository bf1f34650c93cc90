/- TenantTurns: the pure statement, without program and memory. -/
import Derived.Test.YticoaaddhhiglaaQ92
import Derived.Test.YticoaaddhhiglaaRT
namespace Go.Proofs.Yticoaaddhhiglaa.Pure
open Go.RowKit Go.Proofs.Yticoaaddhhiglaa.Q Go.Proofs.YticoaaddhhiglaaW.PrintWords Go.Proofs.YticoaaddhhiglaaW.PrintLast Go.Proofs.YticoaaddhhiglaaW.PrintMore Go.Proofs.YticoaaddhhiglaaW.RowWords

theorem TenantTurns : ∀ (l0 : List (S27)) (a1 : ByteArray) (a2 : ByteArray), (l0.length * 112 ≤ reach ∧ ∀ y ∈ l0, W27 y) → a1.size ≤ reach → a2.size ≤ reach → manometerlaw18_TenantTurns.f l0 a1 a2 = some true := by
  intros; rfl

end Go.Proofs.Yticoaaddhhiglaa.Pure
