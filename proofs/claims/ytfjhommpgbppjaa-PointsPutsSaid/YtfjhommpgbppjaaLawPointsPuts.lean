/- PointsPuts: for every input the law returns true, and each argument reads as before. No conditions. -/
import Derived.Test.YtfjhommpgbppjaaQ0
import Derived.Test.YtfjhommpgbppjaaE9
import Derived.Test.YtfjhommpgbppjaaRows
import Derived.Test.YtfjhommpgbppjaaRT
import Derived.Test.YtfjhommpgbppjaaPurePointsPuts
import Derived.WalkKit
import Derived.ProofKit
import Derived.OpenShut
import Derived.ShutString
import Derived.ChangeOld
import Derived.Below
import Derived.SizedLaws
import Derived.Test.YtfjhommpgbppjaaWSized
namespace Go.Proofs.Ytfjhommpgbppjaa.pointsPuts
open Go.ChangeShapes Go.WideShapes Go.ChangeAt Go.RowKit
open Go.Proofs.YtfjhommpgbppjaaW.PrintWords Go.Proofs.YtfjhommpgbppjaaW.PrintLast Go.Proofs.YtfjhommpgbppjaaW.PrintMore Go.Proofs.YtfjhommpgbppjaaW.RowWords Go.Proofs.Ytfjhommpgbppjaa.Q
open Go.ChangeMaps (open_string shut_string)
set_option linter.unusedVariables false
theorem own : ownKnob Try.prog.godebug = none := by kernel_rfl
theorem laidOut : laidOutB Try.prog = true := by kernel_rfl
set_option maxRecDepth 100000 in
set_option maxHeartbeats 1000000 in
theorem lifted (os : Os) (started : os.Started) (H : Type) (enc : TypeId × Value → H) :
    ReturnsInHanded {} Try.checked os 5 .any (Rows.pointsPutsSpec.pre6 enc Try.prog Try.f5 Rows.pointsPutsRow.domain false) (Rows.pointsPutsSpec.post enc Try.prog Try.f5 false true false false) := by
  refine returnsInHanded_of_change_sized (C := Try.checked) own started (by kernel_rfl) Try.func5
    (ChangeSpec.witness6 (enc := enc) (C := Try.checked) false ⟨#[], #[.slice none 0 0, .agg #[.int .i64 0, .int .u64 0, .int .u64 0]], []⟩ 8 (by kernel_rfl) (by kernel_rfl) (by kernel_rfl) (by kernel_rfl)) ?_
  intro W base args ds gs before hval0 hW hcnd hsz0 _
  have hval : ∀ (j : Nat) t v, Try.f5.params[j]? = some t → args[j]? = some v → Value.okWide Try.prog W .any base t v := hval0
  have hW' := hW
  obtain ⟨p, q, hA0, hV, rfl, hfz, hnd⟩ := hW
  have hA : DataW.TrodAll enc Try.prog W 0 (fun _ => true) true Try.f5.params.toList args.toList ds p := hA0
  rw [Try.params5] at hA hval
  obtain ⟨v0, vs0, d0, ds0, p0, q0, hargs, rfl, rfl, h0, r0⟩ := trodAll_cons hA
  obtain ⟨v1, vs1, d1, ds1, p1, q1, rfl, rfl, rfl, h1, r1⟩ := trodAll_cons r0
  obtain ⟨rfl, rfl, rfl⟩ := trodAll_nil r1
  obtain rfl : args = #[v0, v1] := by cases args; simp_all
  obtain ⟨rfl, rfl⟩ := trodVars_none hV
  have k0 := h0
  have lt0 : ∀ x ∈ p0, x.block < W.heap.size := by obtain ⟨m, hm⟩ := k0; exact DataW.trod_lt m _ _ _ hm
  obtain ⟨fuel0, hf0⟩ := h0
  obtain ⟨a0, len0, cap0, rfl⟩ := okWide_slice Try.underlying22 (hval 0 22 v0 rfl rfl)
  obtain ⟨l0, ⟨A0, c0, he0, hc0, hr0⟩, w0⟩ := (rd_slice Try.underlying22 (by kernel_rfl) rd25) H enc W _ _ _ fuel0 _ _ hf0
  simp only [Value.cells, List.cons.injEq, and_true, Value.slice.injEq] at he0
  obtain ⟨rfl, rfl, rfl⟩ := he0
  have k1 := h1
  have lt1 : ∀ x ∈ p1, x.block < W.heap.size := by obtain ⟨m, hm⟩ := k1; exact DataW.trod_lt m _ _ _ hm
  obtain ⟨fuel1, hf1⟩ := h1
  obtain ⟨cs1, rfl, hsz1⟩ := okWide_struct Try.underlying25 (hval 1 25 v1 rfl rfl)
  obtain ⟨c1_0, c1_1, c1_2, y1_0, y1_1, y1_2, he1, hk1_0, hk1_1, hk1_2, w1_0, w1_1, w1_2⟩ := open25 H enc W _ _ _ fuel1 _ _ hf1
  obtain rfl : cs1 = #[c1_0, c1_1, c1_2] := by cases cs1; simpa [Value.cells] using he1
  obtain rfl := (List.cons.inj hk1_0).1
  obtain rfl := (List.cons.inj hk1_1).1
  obtain rfl := (List.cons.inj hk1_2).1
  clear hA0 hval0 hsz0
  obtain ⟨k, hk⟩ := Pure.PointsPuts l0 y1_0 y1_1 y1_2 w0 w1_0 w1_1 w1_2
  refine (manometerlaw09_PointsPuts.calls k _ _ l0 y1_0 y1_1 y1_2 true W hr0 hc0 rfl hk).mono fun e W' ⟨he, bel⟩ => ?_
  subst he
  exact ⟨_, rfl, _, _, _, [], _, [], hW', trodAll_mk1 (shut_bool Try.underlying4 _), (trodAll_cons_mk (Below.trod laidOut (by kernel_rfl) (of_decide_eq_true (by kernel_rfl)) k0 bel lt0) (trodAll_cons_mk (Below.trod laidOut (by kernel_rfl) (of_decide_eq_true (by kernel_rfl)) k1 bel lt1) trodAll_mk0)), rfl, bel.frame _, fun h => by cases h⟩
theorem over : Rows.pointsPutsRow.holds Try.pinned (OpenSpec.ofChange Rows.pointsPutsSpec) :=
  OpenClaim.holds_of_wide 5 Try.f5 rfl rfl rfl rfl rfl rfl rfl ⟨rfl, rfl, rfl, rfl, rfl⟩ rfl rfl rfl rfl rfl (by kernel_rfl) Try.func5 (by kernel_rfl)
    (of_decide_eq_true (by kernel_rfl)) (by unfold Func.isWrapper; first | (rw [if_pos (by decide +kernel)]; kernel_rfl) | (rw [if_neg (by decide +kernel)]; exact ⟨rfl, rfl⟩))
    (fun os started H enc _ => lifted os started H enc)
theorem proved : Rows.PointsPutsSaid := over
#print axioms proved
end Go.Proofs.Ytfjhommpgbppjaa.pointsPuts
namespace Go.Proofs.Ytfjhommpgbppjaa
/-- The row, under a short name, for the claim. -/
theorem pointsPuts_holds : Rows.PointsPutsSaid := pointsPuts.proved
end Go.Proofs.Ytfjhommpgbppjaa
