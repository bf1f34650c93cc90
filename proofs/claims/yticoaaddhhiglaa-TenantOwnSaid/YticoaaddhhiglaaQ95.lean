/- The law TenantOwn, as its row takes it. -/
import Derived.Test.YticoaaddhhiglaaT35
namespace Go.Proofs.Yticoaaddhhiglaa.Q
open Go.RowKit Go.Proofs.Yticoaaddhhiglaa.T Go.Proofs.YticoaaddhhiglaaW.PrintWords Go.Proofs.YticoaaddhhiglaaW.PrintLast Go.Proofs.YticoaaddhhiglaaW.PrintMore
set_option linter.unusedVariables false
/-- What the law answers. -/
def manometerlaw18_TenantOwn.f (l0 : List S27) (a1 : S27) : Option Bool := some true
theorem manometerlaw18_TenantOwn.calls (A0 : Option Addr) (c0 : Nat) (l0 : List S27) (a1 : S27) (r : Bool) (w : World) (hr0 : Kd.C k27 w A0 l0.length l0) (hc0 : l0.length ≤ c0) (hT : r = true) (h : manometerlaw18_TenantOwn.f l0 a1 = some r) :
    Calls Try.prog 8 #[.slice A0 l0.length c0, .agg #[.int .i64 a1.f0, .string a1.f1, .int .i64 a1.f2.f0, .string a1.f2.f1, .int .i64 a1.f3.f0, .int .i64 a1.f3.f1, .int .i64 a1.f3.f2, .int .i64 a1.f3.f3, .int .i64 a1.f4, .int .i64 a1.f5, .string a1.f6]] w fun e w' => e = .returned (.bool r) ∧ Below w.heap.size w w' := by
  subst hT
  exact own_law a1 hr0 hc0
end Go.Proofs.Yticoaaddhhiglaa.Q
