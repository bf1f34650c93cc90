import Derived.Test.YtmfpikhmeacnbaaDoorX19
import Derived.Test.YtmfpikhmeacnbaaDoorFW
/- The law RexNone, as its row takes it. -/
namespace Go.Proofs.YtmfpikhmeacnbaaDoor.Q
open Go.RowKit Go.Proofs.YtmfpikhmeacnbaaDoorW.PrintWords Go.Proofs.YtmfpikhmeacnbaaDoorW.PrintLast Go.Proofs.YtmfpikhmeacnbaaDoorW.PrintMore
set_option linter.unusedVariables false
/-- What the law answers. -/
def manometerlaw06_RexNone.f (a0 : ByteArray) : Option Bool := some true
theorem manometerlaw06_RexNone.calls (a0 : ByteArray) (r : Bool) (w : World) (hGlob : Glob w) (hT : r = true) (h : manometerlaw06_RexNone.f a0 = some r) :
    Calls Tryd.prog 8 #[.string a0] w fun e w' => e = .returned (.bool r) ∧ Below w.heap.size w w' := by
  subst hT
  exact X.none_law hGlob a0
end Go.Proofs.YtmfpikhmeacnbaaDoor.Q
