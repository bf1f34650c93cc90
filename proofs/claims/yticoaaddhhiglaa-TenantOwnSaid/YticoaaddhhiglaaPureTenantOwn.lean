/- TenantOwn: the pure statement, without program and memory. -/
import Derived.Test.YticoaaddhhiglaaQ95
import Derived.Test.YticoaaddhhiglaaRT
namespace Go.Proofs.Yticoaaddhhiglaa.Pure
open Go.RowKit Go.Proofs.Yticoaaddhhiglaa.Q Go.Proofs.YticoaaddhhiglaaW.PrintWords Go.Proofs.YticoaaddhhiglaaW.PrintLast Go.Proofs.YticoaaddhhiglaaW.PrintMore Go.Proofs.YticoaaddhhiglaaW.RowWords

theorem TenantOwn : ∀ (l0 : List (S27)) (a1 : S27), (l0.length * 112 ≤ reach ∧ ∀ y ∈ l0, W27 y) → W27 a1 → manometerlaw18_TenantOwn.f l0 a1 = some true := by
  intros; rfl

end Go.Proofs.Yticoaaddhhiglaa.Pure
