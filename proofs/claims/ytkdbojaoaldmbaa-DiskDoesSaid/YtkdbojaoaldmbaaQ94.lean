/- The law DiskDoes, as its row takes it. -/
import Derived.Test.YtkdbojaoaldmbaaG36
namespace Go.Proofs.Ytkdbojaoaldmbaa.Q
open Go.RowKit Go.Proofs.Ytkdbojaoaldmbaa.G Go.Proofs.YtkdbojaoaldmbaaW.PrintWords Go.Proofs.YtkdbojaoaldmbaaW.PrintLast Go.Proofs.YtkdbojaoaldmbaaW.PrintMore
set_option linter.unusedVariables false
open Classical in
/-- What the law answers, where the acts are within the reach. -/
noncomputable def manometerlaw11_DiskDoes.f (a0 : Int) (l1 : List S31) : Option Bool := if OkOps l1 then some true else none
theorem manometerlaw11_DiskDoes.calls (a0 : Int) (A1 : Option Addr) (c1 : Nat) (l1 : List S31) (r : Bool) (w : World) (hr1 : Kd.C k31 w A1 l1.length l1) (hc1 : l1.length ≤ c1) (hT : r = true) (h : manometerlaw11_DiskDoes.f a0 l1 = some r) :
    Calls Try.prog 6 #[.int .i64 a0, .slice A1 l1.length c1] w fun e w' => e = .returned (.bool r) ∧ Below w.heap.size w w' := by
  subst hT
  have hok : OkOps l1 := by
    unfold manometerlaw11_DiskDoes.f at h
    split at h
    · assumption
    · cases h
  exact does_law a0 A1 c1 l1 w hr1 hc1 hok
end Go.Proofs.Ytkdbojaoaldmbaa.Q
