-- Readings of the types that the laws take (by row2.py, a program of this session).
import Derived.Test.YtkdbojaoaldmbaaRS
import Derived.Test.YtkdbojaoaldmbaaQ0
import Derived.KernelRfl
namespace Go.Proofs.Ytkdbojaoaldmbaa.Q
open Go.RowKit Go.Proofs.YtkdbojaoaldmbaaW.PrintWords Go.Proofs.YtkdbojaoaldmbaaW.PrintLast Go.Proofs.YtkdbojaoaldmbaaW.PrintMore Go.Proofs.YtkdbojaoaldmbaaW.RowWords
set_option linter.unusedVariables false

theorem open31 (H : Type) (enc : TypeId × Value → H) (w : World) (base : Nat) (spare : Nat → Bool) (held : Bool) (fuel : Nat) (cs : List Value) (x : DataW H × List MemPlace) (h : DataW.trod enc Try.prog w base spare held fuel 31 cs = some x) :
    ∃ c0 c1 c2 c3 c4 : Value, ∃ (y0 : Int) (y1 : ByteArray) (y2 : ByteArray) (y3 : List (Int)) (y4 : Int), cs = [c0, c1, c2, c3, c4] ∧ ((Kd.int .i64)).K w y0 [c0] ∧ (Kd.string).K w y1 [c1] ∧ (Kd.string).K w y2 [c2] ∧ ((Kd.slice 5 (Kd.int .u8))).K w y3 [c3] ∧ ((Kd.int .i64)).K w y4 [c4] ∧ (Light Try.prog 31 x.1 → (Lit.int .i64 y0).wf = true ∧ y1.size ≤ reach ∧ y2.size ≤ reach ∧ (y3.length * 1 ≤ reach ∧ ∀ y ∈ y3, (Lit.int .u8 y).wf = true) ∧ (Lit.int .i64 y4).wf = true) := by
  obtain ⟨xs, n, _, rfl, hl, hlen, hf⟩ := DataW.trod_struct Try.underlying31 h
  have hN : Try.prog.cellsOf 31 = 5 := by kernel_rfl
  rw [hN] at hl
  obtain ⟨c0, c1, c2, c3, c4, rfl⟩ : ∃ c0 c1 c2 c3 c4, cs = [c0, c1, c2, c3, c4] := by
    clear hf
    match cs, hl with
    | [c0, c1, c2, c3, c4], _ => exact ⟨_, _, _, _, _, rfl⟩
  clear hl
  simp only [List.size_toArray, List.length_cons, List.length_nil] at hlen
  obtain ⟨z0, hz0⟩ : ∃ z, xs[0]? = some z := ⟨_, List.getElem?_eq_getElem (by omega)⟩
  have e0 : DataW.trod enc Try.prog w base spare held n 3 (([c0, c1, c2, c3, c4].drop 0).take (Try.prog.cellsOf 3)) = xs[0]? := hf 0 _ rfl
  rw [show Try.prog.cellsOf 3 = 1 from by kernel_rfl, hz0] at e0
  obtain ⟨y0, hk0, hw0⟩ := (rs_int Try.underlying3) H enc w base spare held n [c0] _ e0
  obtain ⟨z1, hz1⟩ : ∃ z, xs[1]? = some z := ⟨_, List.getElem?_eq_getElem (by omega)⟩
  have e1 : DataW.trod enc Try.prog w base spare held n 9 (([c0, c1, c2, c3, c4].drop 1).take (Try.prog.cellsOf 9)) = xs[1]? := hf 1 _ rfl
  rw [show Try.prog.cellsOf 9 = 1 from by kernel_rfl, hz1] at e1
  obtain ⟨y1, hk1, hw1⟩ := (rs_string Try.underlying9) H enc w base spare held n [c1] _ e1
  obtain ⟨z2, hz2⟩ : ∃ z, xs[2]? = some z := ⟨_, List.getElem?_eq_getElem (by omega)⟩
  have e2 : DataW.trod enc Try.prog w base spare held n 9 (([c0, c1, c2, c3, c4].drop 2).take (Try.prog.cellsOf 9)) = xs[2]? := hf 2 _ rfl
  rw [show Try.prog.cellsOf 9 = 1 from by kernel_rfl, hz2] at e2
  obtain ⟨y2, hk2, hw2⟩ := (rs_string Try.underlying9) H enc w base spare held n [c2] _ e2
  obtain ⟨z3, hz3⟩ : ∃ z, xs[3]? = some z := ⟨_, List.getElem?_eq_getElem (by omega)⟩
  have e3 : DataW.trod enc Try.prog w base spare held n 29 (([c0, c1, c2, c3, c4].drop 3).take (Try.prog.cellsOf 29)) = xs[3]? := hf 3 _ rfl
  rw [show Try.prog.cellsOf 29 = 1 from by kernel_rfl, hz3] at e3
  obtain ⟨y3, hk3, hw3⟩ := (rs_slice (B := 1) Try.underlying29 (by kernel_rfl) (by kernel_rfl) (rs_int Try.underlying5)) H enc w base spare held n [c3] _ e3
  obtain ⟨z4, hz4⟩ : ∃ z, xs[4]? = some z := ⟨_, List.getElem?_eq_getElem (by omega)⟩
  have e4 : DataW.trod enc Try.prog w base spare held n 3 (([c0, c1, c2, c3, c4].drop 4).take (Try.prog.cellsOf 3)) = xs[4]? := hf 4 _ rfl
  rw [show Try.prog.cellsOf 3 = 1 from by kernel_rfl, hz4] at e4
  obtain ⟨y4, hk4, hw4⟩ := (rs_int Try.underlying3) H enc w base spare held n [c4] _ e4
  exact ⟨_, _, _, _, _, y0, y1, y2, y3, y4, rfl, hk0, hk1, hk2, hk3, hk4, fun hL => ⟨hw0 (light_part Try.underlying31 hL (j := 0) rfl (by rw [List.getElem?_map, hz0]; rfl)), hw1 (light_part Try.underlying31 hL (j := 1) rfl (by rw [List.getElem?_map, hz1]; rfl)), hw2 (light_part Try.underlying31 hL (j := 2) rfl (by rw [List.getElem?_map, hz2]; rfl)), hw3 (light_part Try.underlying31 hL (j := 3) rfl (by rw [List.getElem?_map, hz3]; rfl)), hw4 (light_part Try.underlying31 hL (j := 4) rfl (by rw [List.getElem?_map, hz4]; rfl))⟩⟩
/-- A value of this type is well formed. -/
def W31 (x : S31) : Prop := (Lit.int .i64 x.f0).wf = true ∧ x.f1.size ≤ reach ∧ x.f2.size ≤ reach ∧ (x.f3.length * 1 ≤ reach ∧ ∀ y ∈ x.f3, (Lit.int .u8 y).wf = true) ∧ (Lit.int .i64 x.f4).wf = true
theorem rs31 : Rs k31 W31 Try.prog 31 := by
  intro H enc w base spare held fuel cs x h
  obtain ⟨c0, c1, c2, c3, c4, y0, y1, y2, y3, y4, rfl, hk0, hk1, hk2, hk3, hk4, hw⟩ := open31 H enc w base spare held fuel cs x h
  exact ⟨⟨y0, y1, y2, y3, y4⟩, ⟨[c0], [c1, c2, c3, c4], rfl, hk0, ⟨[c1], [c2, c3, c4], rfl, hk1, ⟨[c2], [c3, c4], rfl, hk2, ⟨[c3], [c4], rfl, hk3, hk4⟩⟩⟩⟩, hw⟩

end Go.Proofs.Ytkdbojaoaldmbaa.Q
