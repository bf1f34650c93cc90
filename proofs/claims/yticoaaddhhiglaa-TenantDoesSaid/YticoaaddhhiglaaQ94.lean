/- The law TenantDoes, as its row takes it. -/
import Derived.Test.YticoaaddhhiglaaT32
namespace Go.Proofs.Yticoaaddhhiglaa.Q
open Go.RowKit Go.Proofs.Yticoaaddhhiglaa.T Go.Proofs.YticoaaddhhiglaaW.PrintWords Go.Proofs.YticoaaddhhiglaaW.PrintLast Go.Proofs.YticoaaddhhiglaaW.PrintMore
set_option linter.unusedVariables false
/-- What the law answers. -/
def manometerlaw18_TenantDoes.f (l0 : List S27) (a1 : ByteArray) (a2 : Int) : Option Bool := some true
theorem manometerlaw18_TenantDoes.calls (A0 : Option Addr) (c0 : Nat) (l0 : List S27) (a1 : ByteArray) (a2 : Int) (r : Bool) (w : World) (hr0 : Kd.C k27 w A0 l0.length l0) (hc0 : l0.length ≤ c0) (hT : r = true) (h : manometerlaw18_TenantDoes.f l0 a1 a2 = some r) :
    Calls Try.prog 6 #[.slice A0 l0.length c0, .string a1, .int .i64 a2] w fun e w' => e = .returned (.bool r) ∧ Below w.heap.size w w' := by
  subst hT
  exact does_law a1 a2 hr0 hc0
end Go.Proofs.Yticoaaddhhiglaa.Q
