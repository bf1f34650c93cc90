/- TenantOwn: for every input the law returns true, and each argument reads as before. No conditions. -/
import Derived.Test.YticoaaddhhiglaaRows
import Derived.Test.YticoaaddhhiglaaQ95
import Derived.Test.YticoaaddhhiglaaRT
import Derived.Test.YticoaaddhhiglaaPureTenantOwn
import Derived.WalkKit
import Derived.ProofKit
import Derived.OpenShut
import Derived.ShutString
import Derived.ChangeOld
import Derived.Below
import Derived.SizedLaws
import Derived.Test.YticoaaddhhiglaaWSized
namespace Go.Proofs.Yticoaaddhhiglaa.tenantOwn
open Go.ChangeShapes Go.WideShapes Go.ChangeAt Go.RowKit
open Go.Proofs.YticoaaddhhiglaaW.PrintWords Go.Proofs.YticoaaddhhiglaaW.PrintLast Go.Proofs.YticoaaddhhiglaaW.PrintMore Go.Proofs.YticoaaddhhiglaaW.RowWords Go.Proofs.Yticoaaddhhiglaa.Q
open Go.ChangeMaps (open_string shut_string)
set_option linter.unusedVariables false
theorem own : ownKnob Try.prog.godebug = none := by kernel_rfl
theorem laidOut : laidOutB Try.prog = true := by kernel_rfl
set_option maxRecDepth 100000 in
set_option maxHeartbeats 1000000 in
theorem lifted (os : Os) (started : os.Started) (H : Type) (enc : TypeId × Value → H) :
    ReturnsInHanded {} Try.checked os 8 .any (Rows.tenantOwnSpec.pre6 enc Try.prog Try.f8 Rows.tenantOwnRow.domain false) (Rows.tenantOwnSpec.post enc Try.prog Try.f8 false true false false) := by
  refine returnsInHanded_of_change_sized (C := Try.checked) own started (by kernel_rfl) Try.func8
    (ChangeSpec.witness6 (enc := enc) (C := Try.checked) false ⟨#[], #[.slice none 0 0, .agg #[.int .i64 0, .string ByteArray.empty, .int .i64 0, .string ByteArray.empty, .int .i64 0, .int .i64 0, .int .i64 0, .int .i64 0, .int .i64 0, .int .i64 0, .string ByteArray.empty]], []⟩ 8 (by kernel_rfl) (by kernel_rfl) (by kernel_rfl) (by kernel_rfl)) ?_
  intro W base args ds gs before hval0 hW hcnd hSZ _
  have hval : ∀ (j : Nat) t v, Try.f8.params[j]? = some t → args[j]? = some v → Value.okWide Try.prog W .any base t v := hval0
  have hW' := hW
  obtain ⟨p, q, hA0, hV, rfl, hfz, hnd⟩ := hW
  have hA : DataW.TrodAll enc Try.prog W 0 (fun _ => true) true Try.f8.params.toList args.toList ds p := hA0
  rw [Try.params8] at hA hval hSZ
  obtain ⟨v0, vs0, d0, ds0, p0, q0, hargs, rfl, rfl, h0, r0⟩ := trodAll_cons hA
  obtain ⟨v1, vs1, d1, ds1, p1, q1, rfl, rfl, rfl, h1, r1⟩ := trodAll_cons r0
  obtain ⟨rfl, rfl, rfl⟩ := trodAll_nil r1
  obtain rfl : args = #[v0, v1] := by cases args; simp_all
  obtain ⟨rfl, rfl⟩ := trodVars_none hV
  have k0 := h0
  have lt0 : ∀ x ∈ p0, x.block < W.heap.size := by obtain ⟨m, hm⟩ := k0; exact DataW.trod_lt m _ _ _ hm
  obtain ⟨fuel0, hf0⟩ := h0
  obtain ⟨a0, len0, cap0, rfl⟩ := okWide_slice Try.underlying30 (hval 0 30 v0 rfl rfl)
  obtain ⟨l0, ⟨A0, c0, he0, hc0, hr0⟩, w0⟩ := (rs_slice (B := 112) Try.underlying30 (by kernel_rfl) (by kernel_rfl) rs27) H enc W _ _ _ fuel0 _ _ hf0
  replace w0 := w0 (light_of hSZ (j := 0) rfl rfl)
  simp only [Value.cells, List.cons.injEq, and_true, Value.slice.injEq] at he0
  obtain ⟨rfl, rfl, rfl⟩ := he0
  have k1 := h1
  have lt1 : ∀ x ∈ p1, x.block < W.heap.size := by obtain ⟨m, hm⟩ := k1; exact DataW.trod_lt m _ _ _ hm
  obtain ⟨fuel1, hf1⟩ := h1
  obtain ⟨cs1, rfl, hsz1⟩ := okWide_struct Try.underlying27 (hval 1 27 v1 rfl rfl)
  obtain ⟨y1, hk1, w1⟩ := rs27 H enc W _ _ _ fuel1 _ _ hf1
  replace w1 := w1 (light_of hSZ (j := 1) rfl rfl)
  have he1 := k27_open hk1
  obtain rfl : cs1 = #[.int .i64 y1.f0, .string y1.f1, .int .i64 y1.f2.f0, .string y1.f2.f1, .int .i64 y1.f3.f0, .int .i64 y1.f3.f1, .int .i64 y1.f3.f2, .int .i64 y1.f3.f3, .int .i64 y1.f4, .int .i64 y1.f5, .string y1.f6] := by cases cs1; simpa [Value.cells] using he1
  clear hA0 hval0 hSZ
  have hk := Pure.TenantOwn l0 y1 w0 w1
  refine (manometerlaw18_TenantOwn.calls _ _ l0 y1 true W hr0 hc0 rfl hk).mono fun e W' ⟨he, bel⟩ => ?_
  subst he
  exact ⟨_, rfl, _, _, _, [], _, [], hW', trodAll_mk1 (shut_bool Try.underlying4 _), (trodAll_cons_mk (Below.trod laidOut (by kernel_rfl) (of_decide_eq_true (by kernel_rfl)) k0 bel lt0) (trodAll_cons_mk (Below.trod laidOut (by kernel_rfl) (of_decide_eq_true (by kernel_rfl)) k1 bel lt1) trodAll_mk0)), rfl, bel.frame _, fun h => by cases h⟩
theorem over : Rows.tenantOwnRow.holds Try.pinned (OpenSpec.ofChange Rows.tenantOwnSpec) :=
  OpenClaim.holds_of_wide 8 Try.f8 rfl rfl rfl rfl rfl rfl rfl ⟨rfl, rfl, rfl, rfl, rfl⟩ rfl rfl rfl rfl rfl (by kernel_rfl) Try.func8 (by kernel_rfl)
    (of_decide_eq_true (by kernel_rfl)) (by unfold Func.isWrapper; first | (rw [if_pos (by decide +kernel)]; kernel_rfl) | (rw [if_neg (by decide +kernel)]; exact ⟨rfl, rfl⟩))
    (fun os started H enc _ => lifted os started H enc)
theorem proved : Rows.TenantOwnSaid := over
#print axioms proved
end Go.Proofs.Yticoaaddhhiglaa.tenantOwn
namespace Go.Proofs.Yticoaaddhhiglaa
/-- The row, under a short name, for the claim. -/
theorem tenantOwn_holds : Rows.TenantOwnSaid := tenantOwn.proved
end Go.Proofs.Yticoaaddhhiglaa
