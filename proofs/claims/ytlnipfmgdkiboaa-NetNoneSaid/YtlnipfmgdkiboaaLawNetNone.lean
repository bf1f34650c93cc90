/- NetNone: for every input the law returns true, and each argument reads as before. No conditions. -/
import Derived.Test.YtlnipfmgdkiboaaRows
import Derived.Test.YtlnipfmgdkiboaaQ91
import Derived.Test.YtlnipfmgdkiboaaRT
import Derived.Test.YtlnipfmgdkiboaaPureNetNone
import Derived.WalkKit
import Derived.ProofKit
import Derived.OpenShut
import Derived.ShutString
import Derived.ChangeOld
import Derived.Below
import Derived.SizedLaws
import Derived.Test.YtlnipfmgdkiboaaWSized
namespace Go.Proofs.Ytlnipfmgdkiboaa.netNone
open Go.ChangeShapes Go.WideShapes Go.ChangeAt Go.RowKit
open Go.Proofs.YtlnipfmgdkiboaaW.PrintWords Go.Proofs.YtlnipfmgdkiboaaW.PrintLast Go.Proofs.YtlnipfmgdkiboaaW.PrintMore Go.Proofs.YtlnipfmgdkiboaaW.RowWords Go.Proofs.Ytlnipfmgdkiboaa.Q
open Go.ChangeMaps (open_string shut_string)
set_option linter.unusedVariables false
theorem own : ownKnob Try.prog.godebug = none := by kernel_rfl
theorem laidOut : laidOutB Try.prog = true := by kernel_rfl
set_option maxRecDepth 100000 in
set_option maxHeartbeats 1000000 in
theorem lifted (os : Os) (started : os.Started) (H : Type) (enc : TypeId × Value → H) :
    ReturnsInHanded {} Try.checked os 6 .any (Rows.netNoneSpec.pre6 enc Try.prog Try.f6 Rows.netNoneRow.domain false) (Rows.netNoneSpec.post enc Try.prog Try.f6 false true false false) := by
  refine returnsInHanded_of_change_sized (C := Try.checked) own started (by kernel_rfl) Try.func6
    (ChangeSpec.witness6 (enc := enc) (C := Try.checked) false ⟨#[], #[.agg #[.int .i64 0, .string ByteArray.empty, .slice none 0 0, .int .i64 0]], []⟩ 8 (by kernel_rfl) (by kernel_rfl) (by kernel_rfl) (by kernel_rfl)) ?_
  intro W base args ds gs before hval0 hW hcnd hSZ _
  have hval : ∀ (j : Nat) t v, Try.f6.params[j]? = some t → args[j]? = some v → Value.okWide Try.prog W .any base t v := hval0
  have hW' := hW
  obtain ⟨p, q, hA0, hV, rfl, hfz, hnd⟩ := hW
  have hA : DataW.TrodAll enc Try.prog W 0 (fun _ => true) true Try.f6.params.toList args.toList ds p := hA0
  rw [Try.params6] at hA hval hSZ
  obtain ⟨v0, vs0, d0, ds0, p0, q0, hargs, rfl, rfl, h0, r0⟩ := trodAll_cons hA
  obtain ⟨rfl, rfl, rfl⟩ := trodAll_nil r0
  obtain rfl : args = #[v0] := by cases args; simp_all
  obtain ⟨rfl, rfl⟩ := trodVars_none hV
  have k0 := h0
  have lt0 : ∀ x ∈ p0, x.block < W.heap.size := by obtain ⟨m, hm⟩ := k0; exact DataW.trod_lt m _ _ _ hm
  obtain ⟨fuel0, hf0⟩ := h0
  obtain ⟨cs0, rfl, hsz0⟩ := okWide_struct Try.underlying31 (hval 0 31 v0 rfl rfl)
  obtain ⟨c0_0, c0_1, c0_2, c0_3, y0_0, y0_1, y0_2, y0_3, he0, hk0_0, hk0_1, hk0_2, hk0_3, wL0⟩ := open31 H enc W _ _ _ fuel0 _ _ hf0
  obtain ⟨w0_0, w0_1, w0_2, w0_3⟩ := wL0 (light_of hSZ (j := 0) rfl rfl)
  obtain rfl : cs0 = #[c0_0, c0_1, c0_2, c0_3] := by cases cs0; simpa [Value.cells] using he0
  obtain rfl := (List.cons.inj hk0_0).1
  obtain rfl := (List.cons.inj hk0_1).1
  obtain ⟨A0_2, cp0_2, he0_2, hc0_2, hr0_2⟩ := hk0_2
  obtain rfl := (List.cons.inj he0_2).1
  obtain rfl := (List.cons.inj hk0_3).1
  clear hA0 hval0 hSZ
  have hk := Pure.NetNone y0_0 y0_1 y0_2 y0_3 w0_0 w0_1 w0_2 w0_3
  refine (manometerlaw23_NetNone.calls y0_0 y0_1 _ _ y0_2 y0_3 true W hr0_2 hc0_2 rfl hk).mono fun e W' ⟨he, bel⟩ => ?_
  subst he
  exact ⟨_, rfl, _, _, _, [], _, [], hW', trodAll_mk1 (shut_bool Try.underlying4 _), (trodAll_cons_mk (Below.trod laidOut (by kernel_rfl) (of_decide_eq_true (by kernel_rfl)) k0 bel lt0) trodAll_mk0), rfl, bel.frame _, fun h => by cases h⟩
theorem over : Rows.netNoneRow.holds Try.pinned (OpenSpec.ofChange Rows.netNoneSpec) :=
  OpenClaim.holds_of_wide 6 Try.f6 rfl rfl rfl rfl rfl rfl rfl ⟨rfl, rfl, rfl, rfl, rfl⟩ rfl rfl rfl rfl rfl (by kernel_rfl) Try.func6 (by kernel_rfl)
    (of_decide_eq_true (by kernel_rfl)) (by unfold Func.isWrapper; first | (rw [if_pos (by decide +kernel)]; kernel_rfl) | (rw [if_neg (by decide +kernel)]; exact ⟨rfl, rfl⟩))
    (fun os started H enc _ => lifted os started H enc)
theorem proved : Rows.NetNoneSaid := over
#print axioms proved
end Go.Proofs.Ytlnipfmgdkiboaa.netNone
namespace Go.Proofs.Ytlnipfmgdkiboaa
/-- The row, under a short name, for the claim. -/
theorem netNone_holds : Rows.NetNoneSaid := netNone.proved
end Go.Proofs.Ytlnipfmgdkiboaa
