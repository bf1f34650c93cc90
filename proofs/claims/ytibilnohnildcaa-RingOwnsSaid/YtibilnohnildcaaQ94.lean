/- The law RingOwns, as its row takes it. -/
import Derived.Test.YtibilnohnildcaaRP
namespace Go.Proofs.Ytibilnohnildcaa.Q
open Go.RowKit Go.Proofs.Ytibilnohnildcaa.R Go.Proofs.YtibilnohnildcaaW.PrintWords Go.Proofs.YtibilnohnildcaaW.PrintLast Go.Proofs.YtibilnohnildcaaW.PrintMore
set_option linter.unusedVariables false
open Classical in
/-- What the law answers, within the reach. -/
noncomputable def manometerlaw20_RingOwns.f (a0 a1 a2 a3 : Int) : Option Bool := if U64 a1 then some true else none
theorem manometerlaw20_RingOwns.calls (a0 : Int) (a1 : Int) (a2 : Int) (a3 : Int) (r : Bool) (w : World) (hT : r = true) (h : manometerlaw20_RingOwns.f a0 a1 a2 a3 = some r) :
    Calls Try.prog 7 #[.int .i64 a0, .int .u64 a1, .int .i64 a2, .int .i64 a3] w fun e w' => e = .returned (.bool r) ∧ Below w.heap.size w w' := by
  subst hT
  have hok : U64 a1 := by
    unfold manometerlaw20_RingOwns.f at h
    split at h
    · assumption
    · cases h
  exact owns_law a0 a1 a2 a3 w hok
end Go.Proofs.Ytibilnohnildcaa.Q
