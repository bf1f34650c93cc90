import Derived.Test.YtkdbojaoaldmbaaG16
/- The law DiskRefuses, as its row takes it. -/
namespace Go.Proofs.Ytkdbojaoaldmbaa.Q
open Go.RowKit Go.Proofs.Ytkdbojaoaldmbaa.G Go.Proofs.YtkdbojaoaldmbaaW.PrintWords Go.Proofs.YtkdbojaoaldmbaaW.PrintLast Go.Proofs.YtkdbojaoaldmbaaW.PrintMore
set_option linter.unusedVariables false
open Classical in
/-- What the law answers, where the acts are within the reach. -/
noncomputable def manometerlaw11_DiskRefuses.f (a0 : Int) (l1 : List S31) (a2_0 : Int) (a2_1 : ByteArray) (a2_2 : ByteArray) (l2_3 : List Int) (a2_4 : Int) : Option Bool := if OkOps l1 ∧ OkOp a2_1 a2_2 l2_3 then some true else none
theorem manometerlaw11_DiskRefuses.calls (a0 : Int) (A1 : Option Addr) (c1 : Nat) (l1 : List S31) (a2_0 : Int) (a2_1 : ByteArray) (a2_2 : ByteArray) (A2_3 : Option Addr) (c2_3 : Nat) (l2_3 : List Int) (a2_4 : Int) (r : Bool) (w : World) (hr1 : Kd.C k31 w A1 l1.length l1) (hc1 : l1.length ≤ c1) (hr2_3 : Kd.C (Kd.int .u8) w A2_3 l2_3.length l2_3) (hc2_3 : l2_3.length ≤ c2_3) (hT : r = true) (h : manometerlaw11_DiskRefuses.f a0 l1 a2_0 a2_1 a2_2 l2_3 a2_4 = some r) :
    Calls Try.prog 5 #[.int .i64 a0, .slice A1 l1.length c1, .agg #[.int .i64 a2_0, .string a2_1, .string a2_2, .slice A2_3 l2_3.length c2_3, .int .i64 a2_4]] w fun e w' => e = .returned (.bool r) ∧ Below w.heap.size w w' := by
  subst hT
  have hok : OkOps l1 ∧ OkOp a2_1 a2_2 l2_3 := by
    unfold manometerlaw11_DiskRefuses.f at h
    split at h
    · assumption
    · cases h
  exact refuses_calls a0 A1 c1 l1 a2_0 a2_1 a2_2 A2_3 c2_3 l2_3 a2_4 w hr1 hc1 hr2_3 hc2_3 hok.1 hok.2
end Go.Proofs.Ytkdbojaoaldmbaa.Q
