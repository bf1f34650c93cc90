-- Readings of the types that the laws take (by row2.py, a program of this session).
import Derived.Test.YtlnipfmgdkiboaaRS
import Derived.Test.YtlnipfmgdkiboaaQ0
import Derived.KernelRfl
namespace Go.Proofs.Ytlnipfmgdkiboaa.Q
open Go.RowKit Go.Proofs.YtlnipfmgdkiboaaW.PrintWords Go.Proofs.YtlnipfmgdkiboaaW.PrintLast Go.Proofs.YtlnipfmgdkiboaaW.PrintMore Go.Proofs.YtlnipfmgdkiboaaW.RowWords
set_option linter.unusedVariables false
theorem open34 (H : Type) (enc : TypeId × Value → H) (w : World) (base : Nat) (spare : Nat → Bool) (held : Bool) (fuel : Nat) (cs : List Value) (x : DataW H × List MemPlace) (h : DataW.trod enc Try.prog w base spare held fuel 34 cs = some x) :
    ∃ c0 c1 : Value, ∃ (y0 : Int) (y1 : List (Int)), cs = [c0, c1] ∧ ((Kd.int .i64)).K w y0 [c0] ∧ ((Kd.slice 5 (Kd.int .u8))).K w y1 [c1] ∧ (Light Try.prog 34 x.1 → (Lit.int .i64 y0).wf = true ∧ (y1.length * 1 ≤ reach ∧ ∀ y ∈ y1, (Lit.int .u8 y).wf = true)) := by
  obtain ⟨xs, n, _, rfl, hl, hlen, hf⟩ := DataW.trod_struct Try.underlying34 h
  have hN : Try.prog.cellsOf 34 = 2 := by kernel_rfl
  rw [hN] at hl
  obtain ⟨c0, c1, rfl⟩ : ∃ c0 c1, cs = [c0, c1] := by
    clear hf
    match cs, hl with
    | [c0, c1], _ => exact ⟨_, _, rfl⟩
  clear hl
  simp only [List.size_toArray, List.length_cons, List.length_nil] at hlen
  obtain ⟨z0, hz0⟩ : ∃ z, xs[0]? = some z := ⟨_, List.getElem?_eq_getElem (by omega)⟩
  have e0 : DataW.trod enc Try.prog w base spare held n 3 (([c0, c1].drop 0).take (Try.prog.cellsOf 3)) = xs[0]? := hf 0 _ rfl
  rw [show Try.prog.cellsOf 3 = 1 from by kernel_rfl, hz0] at e0
  obtain ⟨y0, hk0, hw0⟩ := (rs_int Try.underlying3) H enc w base spare held n [c0] _ e0
  obtain ⟨z1, hz1⟩ : ∃ z, xs[1]? = some z := ⟨_, List.getElem?_eq_getElem (by omega)⟩
  have e1 : DataW.trod enc Try.prog w base spare held n 32 (([c0, c1].drop 1).take (Try.prog.cellsOf 32)) = xs[1]? := hf 1 _ rfl
  rw [show Try.prog.cellsOf 32 = 1 from by kernel_rfl, hz1] at e1
  obtain ⟨y1, hk1, hw1⟩ := (rs_slice (B := 1) Try.underlying32 (by kernel_rfl) (by kernel_rfl) (rs_int Try.underlying5)) H enc w base spare held n [c1] _ e1
  exact ⟨_, _, y0, y1, rfl, hk0, hk1, fun hL => ⟨hw0 (light_part Try.underlying34 hL (j := 0) rfl (by rw [List.getElem?_map, hz0]; rfl)), hw1 (light_part Try.underlying34 hL (j := 1) rfl (by rw [List.getElem?_map, hz1]; rfl))⟩⟩
/-- A value of this type is well formed. -/
def W34 (x : S34) : Prop := (Lit.int .i64 x.f0).wf = true ∧ (x.f1.length * 1 ≤ reach ∧ ∀ y ∈ x.f1, (Lit.int .u8 y).wf = true)
theorem rs34 : Rs k34 W34 Try.prog 34 := by
  intro H enc w base spare held fuel cs x h
  obtain ⟨c0, c1, y0, y1, rfl, hk0, hk1, hw⟩ := open34 H enc w base spare held fuel cs x h
  exact ⟨⟨y0, y1⟩, ⟨[c0], [c1], rfl, hk0, hk1⟩, hw⟩
theorem open31 (H : Type) (enc : TypeId × Value → H) (w : World) (base : Nat) (spare : Nat → Bool) (held : Bool) (fuel : Nat) (cs : List Value) (x : DataW H × List MemPlace) (h : DataW.trod enc Try.prog w base spare held fuel 31 cs = some x) :
    ∃ c0 c1 c2 c3 : Value, ∃ (y0 : Int) (y1 : ByteArray) (y2 : List (S34)) (y3 : Int), cs = [c0, c1, c2, c3] ∧ ((Kd.int .i64)).K w y0 [c0] ∧ (Kd.string).K w y1 [c1] ∧ ((Kd.slice 34 k34)).K w y2 [c2] ∧ ((Kd.int .i64)).K w y3 [c3] ∧ (Light Try.prog 31 x.1 → (Lit.int .i64 y0).wf = true ∧ y1.size ≤ reach ∧ (y2.length * 32 ≤ reach ∧ ∀ y ∈ y2, W34 y) ∧ (Lit.int .i64 y3).wf = true) := by
  obtain ⟨xs, n, _, rfl, hl, hlen, hf⟩ := DataW.trod_struct Try.underlying31 h
  have hN : Try.prog.cellsOf 31 = 4 := by kernel_rfl
  rw [hN] at hl
  obtain ⟨c0, c1, c2, c3, rfl⟩ : ∃ c0 c1 c2 c3, cs = [c0, c1, c2, c3] := by
    clear hf
    match cs, hl with
    | [c0, c1, c2, c3], _ => exact ⟨_, _, _, _, rfl⟩
  clear hl
  simp only [List.size_toArray, List.length_cons, List.length_nil] at hlen
  obtain ⟨z0, hz0⟩ : ∃ z, xs[0]? = some z := ⟨_, List.getElem?_eq_getElem (by omega)⟩
  have e0 : DataW.trod enc Try.prog w base spare held n 3 (([c0, c1, c2, c3].drop 0).take (Try.prog.cellsOf 3)) = xs[0]? := hf 0 _ rfl
  rw [show Try.prog.cellsOf 3 = 1 from by kernel_rfl, hz0] at e0
  obtain ⟨y0, hk0, hw0⟩ := (rs_int Try.underlying3) H enc w base spare held n [c0] _ e0
  obtain ⟨z1, hz1⟩ : ∃ z, xs[1]? = some z := ⟨_, List.getElem?_eq_getElem (by omega)⟩
  have e1 : DataW.trod enc Try.prog w base spare held n 9 (([c0, c1, c2, c3].drop 1).take (Try.prog.cellsOf 9)) = xs[1]? := hf 1 _ rfl
  rw [show Try.prog.cellsOf 9 = 1 from by kernel_rfl, hz1] at e1
  obtain ⟨y1, hk1, hw1⟩ := (rs_string Try.underlying9) H enc w base spare held n [c1] _ e1
  obtain ⟨z2, hz2⟩ : ∃ z, xs[2]? = some z := ⟨_, List.getElem?_eq_getElem (by omega)⟩
  have e2 : DataW.trod enc Try.prog w base spare held n 29 (([c0, c1, c2, c3].drop 2).take (Try.prog.cellsOf 29)) = xs[2]? := hf 2 _ rfl
  rw [show Try.prog.cellsOf 29 = 1 from by kernel_rfl, hz2] at e2
  obtain ⟨y2, hk2, hw2⟩ := (rs_slice (B := 32) Try.underlying29 (by kernel_rfl) (by kernel_rfl) rs34) H enc w base spare held n [c2] _ e2
  obtain ⟨z3, hz3⟩ : ∃ z, xs[3]? = some z := ⟨_, List.getElem?_eq_getElem (by omega)⟩
  have e3 : DataW.trod enc Try.prog w base spare held n 3 (([c0, c1, c2, c3].drop 3).take (Try.prog.cellsOf 3)) = xs[3]? := hf 3 _ rfl
  rw [show Try.prog.cellsOf 3 = 1 from by kernel_rfl, hz3] at e3
  obtain ⟨y3, hk3, hw3⟩ := (rs_int Try.underlying3) H enc w base spare held n [c3] _ e3
  exact ⟨_, _, _, _, y0, y1, y2, y3, rfl, hk0, hk1, hk2, hk3, fun hL => ⟨hw0 (light_part Try.underlying31 hL (j := 0) rfl (by rw [List.getElem?_map, hz0]; rfl)), hw1 (light_part Try.underlying31 hL (j := 1) rfl (by rw [List.getElem?_map, hz1]; rfl)), hw2 (light_part Try.underlying31 hL (j := 2) rfl (by rw [List.getElem?_map, hz2]; rfl)), hw3 (light_part Try.underlying31 hL (j := 3) rfl (by rw [List.getElem?_map, hz3]; rfl))⟩⟩
/-- A value of this type is well formed. -/
def W31 (x : S31) : Prop := (Lit.int .i64 x.f0).wf = true ∧ x.f1.size ≤ reach ∧ (x.f2.length * 32 ≤ reach ∧ ∀ y ∈ x.f2, W34 y) ∧ (Lit.int .i64 x.f3).wf = true
theorem rs31 : Rs k31 W31 Try.prog 31 := by
  intro H enc w base spare held fuel cs x h
  obtain ⟨c0, c1, c2, c3, y0, y1, y2, y3, rfl, hk0, hk1, hk2, hk3, hw⟩ := open31 H enc w base spare held fuel cs x h
  exact ⟨⟨y0, y1, y2, y3⟩, ⟨[c0], [c1, c2, c3], rfl, hk0, ⟨[c1], [c2, c3], rfl, hk1, ⟨[c2], [c3], rfl, hk2, hk3⟩⟩⟩, hw⟩
end Go.Proofs.Ytlnipfmgdkiboaa.Q
