/- TenantRight: the pure statement, without program and memory. -/
import Derived.Test.YticoaaddhhiglaaQ90
import Derived.Test.YticoaaddhhiglaaRT
namespace Go.Proofs.Yticoaaddhhiglaa.Pure
open Go.RowKit Go.Proofs.Yticoaaddhhiglaa.Q Go.Proofs.YticoaaddhhiglaaW.PrintWords Go.Proofs.YticoaaddhhiglaaW.PrintLast Go.Proofs.YticoaaddhhiglaaW.PrintMore Go.Proofs.YticoaaddhhiglaaW.RowWords

theorem TenantRight : ∀ (a0 : S27), W27 a0 → manometerlaw18_TenantRight.f a0 = some true := by
  intros; rfl

end Go.Proofs.Yticoaaddhhiglaa.Pure
