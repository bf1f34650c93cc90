/- The law RingNone, as its row takes it. -/
import Derived.Test.YtibilnohnildcaaR18
namespace Go.Proofs.Ytibilnohnildcaa.Q
open Go.RowKit Go.Proofs.Ytibilnohnildcaa.R Go.Proofs.YtibilnohnildcaaW.PrintWords Go.Proofs.YtibilnohnildcaaW.PrintLast Go.Proofs.YtibilnohnildcaaW.PrintMore
set_option linter.unusedVariables false
/-- What the law answers. -/
def manometerlaw20_RingNone.f (a0 : ByteArray) (l1 : List Int) (a2 : Int) : Option Bool := some true
theorem manometerlaw20_RingNone.calls (a0 : ByteArray) (A1 : Option Addr) (c1 : Nat) (l1 : List Int) (a2 : Int) (r : Bool) (w : World) (hr1 : Kd.C (Kd.int .i64) w A1 l1.length l1) (hc1 : l1.length ≤ c1) (hT : r = true) (h : manometerlaw20_RingNone.f a0 l1 a2 = some r) :
    Calls Try.prog 9 #[.string a0, .slice A1 l1.length c1, .int .u64 a2] w fun e w' => e = .returned (.bool r) ∧ Below w.heap.size w w' := by
  subst hT
  exact none_law a0 A1 l1.length c1 a2 w
end Go.Proofs.Ytibilnohnildcaa.Q
