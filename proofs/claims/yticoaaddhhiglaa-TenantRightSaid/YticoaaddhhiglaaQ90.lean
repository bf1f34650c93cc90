/- The law TenantRight, as its row takes it. -/
import Derived.Test.YticoaaddhhiglaaT17
namespace Go.Proofs.Yticoaaddhhiglaa.Q
open Go.RowKit Go.Proofs.Yticoaaddhhiglaa.T Go.Proofs.YticoaaddhhiglaaW.PrintWords Go.Proofs.YticoaaddhhiglaaW.PrintLast Go.Proofs.YticoaaddhhiglaaW.PrintMore
set_option linter.unusedVariables false
/-- What the law answers. -/
def manometerlaw18_TenantRight.f (a0 : S27) : Option Bool := some true
theorem manometerlaw18_TenantRight.calls (a0 : S27) (r : Bool) (w : World) (hT : r = true) (h : manometerlaw18_TenantRight.f a0 = some r) :
    Calls Try.prog 3 #[.agg #[.int .i64 a0.f0, .string a0.f1, .int .i64 a0.f2.f0, .string a0.f2.f1, .int .i64 a0.f3.f0, .int .i64 a0.f3.f1, .int .i64 a0.f3.f2, .int .i64 a0.f3.f3, .int .i64 a0.f4, .int .i64 a0.f5, .string a0.f6]] w fun e w' => e = .returned (.bool r) ∧ Below w.heap.size w w' := by
  subst hT
  exact right_law a0 w
end Go.Proofs.Yticoaaddhhiglaa.Q
