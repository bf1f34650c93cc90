/- The law NetApart, as its row takes it. -/
import Derived.Test.YtlnipfmgdkiboaaN16
namespace Go.Proofs.Ytlnipfmgdkiboaa.Q
open Go.RowKit Go.Proofs.Ytlnipfmgdkiboaa.N Go.Proofs.YtlnipfmgdkiboaaW.PrintWords Go.Proofs.YtlnipfmgdkiboaaW.PrintLast Go.Proofs.YtlnipfmgdkiboaaW.PrintMore
set_option linter.unusedVariables false
open Classical in
/-- What the law answers, where the acts are within the reach. -/
noncomputable def manometerlaw23_NetApart.f (a0 : Int) (l1 : List S31) (a2 : ByteArray) : Option Bool := if OkOps l1 then some true else none
theorem manometerlaw23_NetApart.calls (a0 : Int) (A1 : Option Addr) (c1 : Nat) (l1 : List S31) (a2 : ByteArray) (r : Bool) (w : World) (hr1 : Kd.C k31 w A1 l1.length l1) (hc1 : l1.length ≤ c1) (hT : r = true) (h : manometerlaw23_NetApart.f a0 l1 a2 = some r) :
    Calls Try.prog 3 #[.int .i64 a0, .slice A1 l1.length c1, .string a2] w fun e w' => e = .returned (.bool r) ∧ Below w.heap.size w w' := by
  subst hT
  have hok : OkOps l1 := by
    unfold manometerlaw23_NetApart.f at h
    split at h
    · assumption
    · cases h
  by_cases hr : 1 ≤ a0 ∧ a0 ≤ 256
  · exact apart_calls a0 A1 c1 l1 a2 w hr.1 hr.2 hc1 hr1 hok
  · exact apart_bad a0 A1 c1 l1.length a2 w hr
end Go.Proofs.Ytlnipfmgdkiboaa.Q
