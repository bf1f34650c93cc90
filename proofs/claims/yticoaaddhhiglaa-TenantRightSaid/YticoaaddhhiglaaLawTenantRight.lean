/- TenantRight: for every input the law returns true, and each argument reads as before. No conditions. -/
import Derived.Test.YticoaaddhhiglaaRows
import Derived.Test.YticoaaddhhiglaaQ90
import Derived.Test.YticoaaddhhiglaaRT
import Derived.Test.YticoaaddhhiglaaPureTenantRight
import Derived.WalkKit
import Derived.ProofKit
import Derived.OpenShut
import Derived.ShutString
import Derived.ChangeOld
import Derived.Below
import Derived.SizedLaws
import Derived.Test.YticoaaddhhiglaaWSized
namespace Go.Proofs.Yticoaaddhhiglaa.tenantRight
open Go.ChangeShapes Go.WideShapes Go.ChangeAt Go.RowKit
open Go.Proofs.YticoaaddhhiglaaW.PrintWords Go.Proofs.YticoaaddhhiglaaW.PrintLast Go.Proofs.YticoaaddhhiglaaW.PrintMore Go.Proofs.YticoaaddhhiglaaW.RowWords Go.Proofs.Yticoaaddhhiglaa.Q
open Go.ChangeMaps (open_string shut_string)
set_option linter.unusedVariables false
theorem own : ownKnob Try.prog.godebug = none := by kernel_rfl
theorem laidOut : laidOutB Try.prog = true := by kernel_rfl
set_option maxRecDepth 100000 in
set_option maxHeartbeats 1000000 in
theorem lifted (os : Os) (started : os.Started) (H : Type) (enc : TypeId × Value → H) :
    ReturnsInHanded {} Try.checked os 3 .any (Rows.tenantRightSpec.pre6 enc Try.prog Try.f3 Rows.tenantRightRow.domain false) (Rows.tenantRightSpec.post enc Try.prog Try.f3 false true false false) := by
  refine returnsInHanded_of_change_sized (C := Try.checked) own started (by kernel_rfl) Try.func3
    (ChangeSpec.witness6 (enc := enc) (C := Try.checked) false ⟨#[], #[.agg #[.int .i64 0, .string ByteArray.empty, .int .i64 0, .string ByteArray.empty, .int .i64 0, .int .i64 0, .int .i64 0, .int .i64 0, .int .i64 0, .int .i64 0, .string ByteArray.empty]], []⟩ 8 (by kernel_rfl) (by kernel_rfl) (by kernel_rfl) (by kernel_rfl)) ?_
  intro W base args ds gs before hval0 hW hcnd hSZ _
  have hval : ∀ (j : Nat) t v, Try.f3.params[j]? = some t → args[j]? = some v → Value.okWide Try.prog W .any base t v := hval0
  have hW' := hW
  obtain ⟨p, q, hA0, hV, rfl, hfz, hnd⟩ := hW
  have hA : DataW.TrodAll enc Try.prog W 0 (fun _ => true) true Try.f3.params.toList args.toList ds p := hA0
  rw [Try.params3] at hA hval hSZ
  obtain ⟨v0, vs0, d0, ds0, p0, q0, hargs, rfl, rfl, h0, r0⟩ := trodAll_cons hA
  obtain ⟨rfl, rfl, rfl⟩ := trodAll_nil r0
  obtain rfl : args = #[v0] := by cases args; simp_all
  obtain ⟨rfl, rfl⟩ := trodVars_none hV
  have k0 := h0
  have lt0 : ∀ x ∈ p0, x.block < W.heap.size := by obtain ⟨m, hm⟩ := k0; exact DataW.trod_lt m _ _ _ hm
  obtain ⟨fuel0, hf0⟩ := h0
  obtain ⟨cs0, rfl, hsz0⟩ := okWide_struct Try.underlying27 (hval 0 27 v0 rfl rfl)
  obtain ⟨y0, hk0, w0⟩ := rs27 H enc W _ _ _ fuel0 _ _ hf0
  replace w0 := w0 (light_of hSZ (j := 0) rfl rfl)
  have he0 := k27_open hk0
  obtain rfl : cs0 = #[.int .i64 y0.f0, .string y0.f1, .int .i64 y0.f2.f0, .string y0.f2.f1, .int .i64 y0.f3.f0, .int .i64 y0.f3.f1, .int .i64 y0.f3.f2, .int .i64 y0.f3.f3, .int .i64 y0.f4, .int .i64 y0.f5, .string y0.f6] := by cases cs0; simpa [Value.cells] using he0
  clear hA0 hval0 hSZ
  have hk := Pure.TenantRight y0 w0
  refine (manometerlaw18_TenantRight.calls y0 true W  rfl hk).mono fun e W' ⟨he, bel⟩ => ?_
  subst he
  exact ⟨_, rfl, _, _, _, [], _, [], hW', trodAll_mk1 (shut_bool Try.underlying4 _), (trodAll_cons_mk (Below.trod laidOut (by kernel_rfl) (of_decide_eq_true (by kernel_rfl)) k0 bel lt0) trodAll_mk0), rfl, bel.frame _, fun h => by cases h⟩
theorem over : Rows.tenantRightRow.holds Try.pinned (OpenSpec.ofChange Rows.tenantRightSpec) :=
  OpenClaim.holds_of_wide 3 Try.f3 rfl rfl rfl rfl rfl rfl rfl ⟨rfl, rfl, rfl, rfl, rfl⟩ rfl rfl rfl rfl rfl (by kernel_rfl) Try.func3 (by kernel_rfl)
    (of_decide_eq_true (by kernel_rfl)) (by unfold Func.isWrapper; first | (rw [if_pos (by decide +kernel)]; kernel_rfl) | (rw [if_neg (by decide +kernel)]; exact ⟨rfl, rfl⟩))
    (fun os started H enc _ => lifted os started H enc)
theorem proved : Rows.TenantRightSaid := over
#print axioms proved
end Go.Proofs.Yticoaaddhhiglaa.tenantRight
namespace Go.Proofs.Yticoaaddhhiglaa
/-- The row, under a short name, for the claim. -/
theorem tenantRight_holds : Rows.TenantRightSaid := tenantRight.proved
end Go.Proofs.Yticoaaddhhiglaa
