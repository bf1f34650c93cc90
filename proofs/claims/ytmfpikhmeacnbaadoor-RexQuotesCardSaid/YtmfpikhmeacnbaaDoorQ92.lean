import Derived.Test.YtmfpikhmeacnbaaDoorX25
import Derived.Test.YtmfpikhmeacnbaaDoorFW
/- The law RexQuotes, as its row takes it. -/
namespace Go.Proofs.YtmfpikhmeacnbaaDoor.Q
open Go.RowKit Go.Proofs.YtmfpikhmeacnbaaDoorW.PrintWords Go.Proofs.YtmfpikhmeacnbaaDoorW.PrintLast Go.Proofs.YtmfpikhmeacnbaaDoorW.PrintMore
set_option linter.unusedVariables false
/-- What the law answers. -/
def manometerlaw06_RexQuotes.f (a0 a1 : ByteArray) : Option Bool := some true
theorem manometerlaw06_RexQuotes.calls (a0 : ByteArray) (a1 : ByteArray) (r : Bool) (w : World) (hGlob : Glob w) (hT : r = true) (h : manometerlaw06_RexQuotes.f a0 a1 = some r) :
    Calls Tryd.prog 4 #[.string a0, .string a1] w fun e w' => e = .returned (.bool r) ∧ Below w.heap.size w w' := by
  subst hT
  exact X.quotes_law hGlob a0 a1
end Go.Proofs.YtmfpikhmeacnbaaDoor.Q
