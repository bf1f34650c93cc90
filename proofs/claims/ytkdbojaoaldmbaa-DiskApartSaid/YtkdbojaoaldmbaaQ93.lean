/- The law DiskApart, as its row takes it. -/
import Derived.Test.YtkdbojaoaldmbaaG20
namespace Go.Proofs.Ytkdbojaoaldmbaa.Q
open Go.RowKit Go.Proofs.Ytkdbojaoaldmbaa.G Go.Proofs.YtkdbojaoaldmbaaW.PrintWords Go.Proofs.YtkdbojaoaldmbaaW.PrintLast Go.Proofs.YtkdbojaoaldmbaaW.PrintMore
set_option linter.unusedVariables false
open Classical in
/-- What the law answers, where the acts are within the reach. -/
noncomputable def manometerlaw11_DiskApart.f (l0 : List S31) (a1 : ByteArray) : Option Bool := if OkOps l0 then some true else none
theorem manometerlaw11_DiskApart.calls (A0 : Option Addr) (c0 : Nat) (l0 : List S31) (a1 : ByteArray) (r : Bool) (w : World) (hr0 : Kd.C k31 w A0 l0.length l0) (hc0 : l0.length ≤ c0) (hT : r = true) (h : manometerlaw11_DiskApart.f l0 a1 = some r) :
    Calls Try.prog 3 #[.slice A0 l0.length c0, .string a1] w fun e w' => e = .returned (.bool r) ∧ Below w.heap.size w w' := by
  subst hT
  have hok : OkOps l0 := by
    unfold manometerlaw11_DiskApart.f at h
    split at h
    · assumption
    · cases h
  exact apart_law A0 c0 l0 a1 w hr0 hc0 hok
end Go.Proofs.Ytkdbojaoaldmbaa.Q
