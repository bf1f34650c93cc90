/- The law RingReplicas, as its row takes it. -/
import Derived.Test.YtibilnohnildcaaRP
namespace Go.Proofs.Ytibilnohnildcaa.Q
open Go.RowKit Go.Proofs.Ytibilnohnildcaa.R Go.Proofs.YtibilnohnildcaaW.PrintWords Go.Proofs.YtibilnohnildcaaW.PrintLast Go.Proofs.YtibilnohnildcaaW.PrintMore
set_option linter.unusedVariables false
open Classical in
/-- What the law answers, within the reach. -/
noncomputable def manometerlaw20_RingReplicas.f (a0 : Int) (l1 : List Int) (a2 : Int) : Option Bool := if U64 a2 then some true else none
theorem manometerlaw20_RingReplicas.calls (a0 : Int) (A1 : Option Addr) (c1 : Nat) (l1 : List Int) (a2 : Int) (r : Bool) (w : World) (hr1 : Kd.C (Kd.int .i64) w A1 l1.length l1) (hc1 : l1.length ≤ c1) (hT : r = true) (h : manometerlaw20_RingReplicas.f a0 l1 a2 = some r) :
    Calls Try.prog 4 #[.int .i64 a0, .slice A1 l1.length c1, .int .u64 a2] w fun e w' => e = .returned (.bool r) ∧ Below w.heap.size w w' := by
  subst hT
  have hok : U64 a2 := by
    unfold manometerlaw20_RingReplicas.f at h
    split at h
    · assumption
    · cases h
  exact replicas_law a0 A1 c1 l1 a2 w hr1 hc1 hok
end Go.Proofs.Ytibilnohnildcaa.Q
