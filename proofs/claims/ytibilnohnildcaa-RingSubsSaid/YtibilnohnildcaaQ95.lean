/- The law RingSubs, as its row takes it. -/
import Derived.Test.YtibilnohnildcaaRP
namespace Go.Proofs.Ytibilnohnildcaa.Q
open Go.RowKit Go.Proofs.Ytibilnohnildcaa.R Go.Proofs.YtibilnohnildcaaW.PrintWords Go.Proofs.YtibilnohnildcaaW.PrintLast Go.Proofs.YtibilnohnildcaaW.PrintMore
set_option linter.unusedVariables false
/-- What the law answers. -/
def manometerlaw20_RingSubs.f (a0 : Int) (a1 : ByteArray) (a2 : Int) : Option Bool := some true
theorem manometerlaw20_RingSubs.calls (a0 : Int) (a1 : ByteArray) (a2 : Int) (r : Bool) (w : World) (hT : r = true) (h : manometerlaw20_RingSubs.f a0 a1 a2 = some r) :
    Calls Try.prog 3 #[.int .i64 a0, .string a1, .int .i64 a2] w fun e w' => e = .returned (.bool r) ∧ Below w.heap.size w w' := by
  subst hT
  exact subs_law a0 a1 a2 w
end Go.Proofs.Ytibilnohnildcaa.Q
