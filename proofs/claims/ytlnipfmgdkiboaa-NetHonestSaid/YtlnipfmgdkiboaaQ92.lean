/- The law NetHonest, as its row takes it. -/
import Derived.Test.YtlnipfmgdkiboaaN23
namespace Go.Proofs.Ytlnipfmgdkiboaa.Q
open Go.RowKit Go.Proofs.Ytlnipfmgdkiboaa.N Go.Proofs.YtlnipfmgdkiboaaW.PrintWords Go.Proofs.YtlnipfmgdkiboaaW.PrintLast Go.Proofs.YtlnipfmgdkiboaaW.PrintMore
set_option linter.unusedVariables false
set_option maxHeartbeats 400000 in
set_option maxRecDepth 100000 in
theorem honest_bad (room : Int) (A : Option Addr) (c : Nat) (n : Nat) (w : World) (hr : ¬(1 ≤ room ∧ room ≤ 256)) :
    Calls Try.prog 4 #[.int .i64 room, .slice A n c] w fun e w' => e = .returned (.bool true) ∧ Below w.heap.size w w' := by
  have HR := Aside0.mk hr
  have HB := Aside0.mk (Below.refl w.heap.size w)
  clear hr
  go_enter Try.func4, Try.ntmps4
  go_wp2_with (first
    | (go_at_call 7; (with_reducible refine (new_bad room _ HR.out).mono ?_); rintro e w' ⟨rfl, rfl⟩)
    | (go_at_call 8; (with_reducible refine (live_calls _).mono ?_); rintro e w1 ⟨rfl, hb⟩; have HBn := Aside0.mk (HB.out.trans (hb.mono HB.out.size)); clear HB hb; have HB := HBn; clear HBn))
  go_ret
  exact ⟨rfl, HB.out⟩
open Classical in
/-- What the law answers, where the acts are within the reach. -/
noncomputable def manometerlaw23_NetHonest.f (a0 : Int) (l1 : List S31) : Option Bool := if OkHon l1 then some true else none
theorem manometerlaw23_NetHonest.calls (a0 : Int) (A1 : Option Addr) (c1 : Nat) (l1 : List S31) (r : Bool) (w : World) (hr1 : Kd.C k31 w A1 l1.length l1) (hc1 : l1.length ≤ c1) (hT : r = true) (h : manometerlaw23_NetHonest.f a0 l1 = some r) :
    Calls Try.prog 4 #[.int .i64 a0, .slice A1 l1.length c1] w fun e w' => e = .returned (.bool r) ∧ Below w.heap.size w w' := by
  subst hT
  have hok : OkHon l1 := by
    unfold manometerlaw23_NetHonest.f at h
    split at h
    · assumption
    · cases h
  by_cases hr : 1 ≤ a0 ∧ a0 ≤ 256
  · exact honest_calls a0 A1 c1 l1 w hr.1 hr.2 hc1 hr1 hok
  · exact honest_bad a0 A1 c1 l1.length w hr
end Go.Proofs.Ytlnipfmgdkiboaa.Q
