/- The law TenantKept, as its row takes it. -/
import Derived.Test.YticoaaddhhiglaaT19
namespace Go.Proofs.Yticoaaddhhiglaa.Q
open Go.RowKit Go.Proofs.Yticoaaddhhiglaa.T Go.Proofs.YticoaaddhhiglaaW.PrintWords Go.Proofs.YticoaaddhhiglaaW.PrintLast Go.Proofs.YticoaaddhhiglaaW.PrintMore
set_option linter.unusedVariables false
/-- What the law answers. -/
def manometerlaw18_TenantKept.f (l0 : List S27) : Option Bool := some true
theorem manometerlaw18_TenantKept.calls (A0 : Option Addr) (c0 : Nat) (l0 : List S27) (r : Bool) (w : World) (hr0 : Kd.C k27 w A0 l0.length l0) (hc0 : l0.length ≤ c0) (hT : r = true) (h : manometerlaw18_TenantKept.f l0 = some r) :
    Calls Try.prog 7 #[.slice A0 l0.length c0] w fun e w' => e = .returned (.bool r) ∧ Below w.heap.size w w' := by
  subst hT
  exact kept_law hr0 hc0
end Go.Proofs.Yticoaaddhhiglaa.Q
