/- DiskRefuses: for every input the law returns true, and each argument reads as before. No conditions. -/
import Derived.Test.YtkdbojaoaldmbaaRows
import Derived.Test.YtkdbojaoaldmbaaQ91
import Derived.Test.YtkdbojaoaldmbaaRT
import Derived.Test.YtkdbojaoaldmbaaPureDiskRefuses
import Derived.WalkKit
import Derived.ProofKit
import Derived.OpenShut
import Derived.ShutString
import Derived.ChangeOld
import Derived.Below
import Derived.SizedLaws
import Derived.Test.YtkdbojaoaldmbaaWSized
namespace Go.Proofs.Ytkdbojaoaldmbaa.diskRefuses
open Go.ChangeShapes Go.WideShapes Go.ChangeAt Go.RowKit
open Go.Proofs.YtkdbojaoaldmbaaW.PrintWords Go.Proofs.YtkdbojaoaldmbaaW.PrintLast Go.Proofs.YtkdbojaoaldmbaaW.PrintMore Go.Proofs.YtkdbojaoaldmbaaW.RowWords Go.Proofs.Ytkdbojaoaldmbaa.Q
open Go.ChangeMaps (open_string shut_string)
set_option linter.unusedVariables false
theorem own : ownKnob Try.prog.godebug = none := by kernel_rfl
theorem laidOut : laidOutB Try.prog = true := by kernel_rfl
set_option maxRecDepth 100000 in
set_option maxHeartbeats 1000000 in
theorem lifted (os : Os) (started : os.Started) (H : Type) (enc : TypeId × Value → H) :
    ReturnsInHanded {} Try.checked os 5 .any (Rows.diskRefusesSpec.pre6 enc Try.prog Try.f5 Rows.diskRefusesRow.domain false) (Rows.diskRefusesSpec.post enc Try.prog Try.f5 false true false false) := by
  refine returnsInHanded_of_change_sized (C := Try.checked) own started (by kernel_rfl) Try.func5
    (ChangeSpec.witness6 (enc := enc) (C := Try.checked) false ⟨#[], #[.int .i64 0, .slice none 0 0, .agg #[.int .i64 0, .string ByteArray.empty, .string ByteArray.empty, .slice none 0 0, .int .i64 0]], []⟩ 8 (by kernel_rfl) (by kernel_rfl) (by kernel_rfl) (by kernel_rfl)) ?_
  intro W base args ds gs before hval0 hW hcnd hSZ _
  have hval : ∀ (j : Nat) t v, Try.f5.params[j]? = some t → args[j]? = some v → Value.okWide Try.prog W .any base t v := hval0
  have hW' := hW
  obtain ⟨p, q, hA0, hV, rfl, hfz, hnd⟩ := hW
  have hA : DataW.TrodAll enc Try.prog W 0 (fun _ => true) true Try.f5.params.toList args.toList ds p := hA0
  rw [Try.params5] at hA hval hSZ
  obtain ⟨v0, vs0, d0, ds0, p0, q0, hargs, rfl, rfl, h0, r0⟩ := trodAll_cons hA
  obtain ⟨v1, vs1, d1, ds1, p1, q1, rfl, rfl, rfl, h1, r1⟩ := trodAll_cons r0
  obtain ⟨v2, vs2, d2, ds2, p2, q2, rfl, rfl, rfl, h2, r2⟩ := trodAll_cons r1
  obtain ⟨rfl, rfl, rfl⟩ := trodAll_nil r2
  obtain rfl : args = #[v0, v1, v2] := by cases args; simp_all
  obtain ⟨rfl, rfl⟩ := trodVars_none hV
  obtain ⟨a0, rfl, rfl, rfl, w0⟩ := open_int Try.underlying3 (hval 0 3 v0 rfl rfl) h0
  have k1 := h1
  have lt1 : ∀ x ∈ p1, x.block < W.heap.size := by obtain ⟨m, hm⟩ := k1; exact DataW.trod_lt m _ _ _ hm
  obtain ⟨fuel1, hf1⟩ := h1
  obtain ⟨a1, len1, cap1, rfl⟩ := okWide_slice Try.underlying22 (hval 1 22 v1 rfl rfl)
  obtain ⟨l1, ⟨A1, c1, he1, hc1, hr1⟩, w1⟩ := (rs_slice (B := 72) Try.underlying22 (by kernel_rfl) (by kernel_rfl) rs31) H enc W _ _ _ fuel1 _ _ hf1
  replace w1 := w1 (light_of hSZ (j := 1) rfl rfl)
  simp only [Value.cells, List.cons.injEq, and_true, Value.slice.injEq] at he1
  obtain ⟨rfl, rfl, rfl⟩ := he1
  have k2 := h2
  have lt2 : ∀ x ∈ p2, x.block < W.heap.size := by obtain ⟨m, hm⟩ := k2; exact DataW.trod_lt m _ _ _ hm
  obtain ⟨fuel2, hf2⟩ := h2
  obtain ⟨cs2, rfl, hsz2⟩ := okWide_struct Try.underlying31 (hval 2 31 v2 rfl rfl)
  obtain ⟨c2_0, c2_1, c2_2, c2_3, c2_4, y2_0, y2_1, y2_2, y2_3, y2_4, he2, hk2_0, hk2_1, hk2_2, hk2_3, hk2_4, wL2⟩ := open31 H enc W _ _ _ fuel2 _ _ hf2
  obtain ⟨w2_0, w2_1, w2_2, w2_3, w2_4⟩ := wL2 (light_of hSZ (j := 2) rfl rfl)
  obtain rfl : cs2 = #[c2_0, c2_1, c2_2, c2_3, c2_4] := by cases cs2; simpa [Value.cells] using he2
  obtain rfl := (List.cons.inj hk2_0).1
  obtain rfl := (List.cons.inj hk2_1).1
  obtain rfl := (List.cons.inj hk2_2).1
  obtain ⟨A2_3, cp2_3, he2_3, hc2_3, hr2_3⟩ := hk2_3
  obtain rfl := (List.cons.inj he2_3).1
  obtain rfl := (List.cons.inj hk2_4).1
  clear hA0 hval0 hSZ
  have hk := Pure.DiskRefuses a0 l1 y2_0 y2_1 y2_2 y2_3 y2_4 w0 w1 w2_0 w2_1 w2_2 w2_3 w2_4
  refine (manometerlaw11_DiskRefuses.calls a0 _ _ l1 y2_0 y2_1 y2_2 _ _ y2_3 y2_4 true W hr1 hc1 hr2_3 hc2_3 rfl hk).mono fun e W' ⟨he, bel⟩ => ?_
  subst he
  exact ⟨_, rfl, _, _, _, [], _, [], hW', trodAll_mk1 (shut_bool Try.underlying4 _), (trodAll_cons_mk (shut_int Try.underlying3 w0) (trodAll_cons_mk (Below.trod laidOut (by kernel_rfl) (of_decide_eq_true (by kernel_rfl)) k1 bel lt1) (trodAll_cons_mk (Below.trod laidOut (by kernel_rfl) (of_decide_eq_true (by kernel_rfl)) k2 bel lt2) trodAll_mk0))), rfl, bel.frame _, fun h => by cases h⟩
theorem over : Rows.diskRefusesRow.holds Try.pinned (OpenSpec.ofChange Rows.diskRefusesSpec) :=
  OpenClaim.holds_of_wide 5 Try.f5 rfl rfl rfl rfl rfl rfl rfl ⟨rfl, rfl, rfl, rfl, rfl⟩ rfl rfl rfl rfl rfl (by kernel_rfl) Try.func5 (by kernel_rfl)
    (of_decide_eq_true (by kernel_rfl)) (by unfold Func.isWrapper; first | (rw [if_pos (by decide +kernel)]; kernel_rfl) | (rw [if_neg (by decide +kernel)]; exact ⟨rfl, rfl⟩))
    (fun os started H enc _ => lifted os started H enc)
theorem proved : Rows.DiskRefusesSaid := over
#print axioms proved
end Go.Proofs.Ytkdbojaoaldmbaa.diskRefuses
namespace Go.Proofs.Ytkdbojaoaldmbaa
/-- The row, under a short name, for the claim. -/
theorem diskRefuses_holds : Rows.DiskRefusesSaid := diskRefuses.proved
end Go.Proofs.Ytkdbojaoaldmbaa
