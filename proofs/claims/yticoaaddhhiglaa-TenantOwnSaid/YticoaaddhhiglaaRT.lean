-- Readings of the types that the laws take (by row2.py, a program of this session).
import Derived.Test.YticoaaddhhiglaaRS
import Derived.Test.YticoaaddhhiglaaQ0
import Derived.KernelRfl
namespace Go.Proofs.Yticoaaddhhiglaa.Q
open Go.RowKit Go.Proofs.YticoaaddhhiglaaW.PrintWords Go.Proofs.YticoaaddhhiglaaW.PrintLast Go.Proofs.YticoaaddhhiglaaW.PrintMore Go.Proofs.YticoaaddhhiglaaW.RowWords
set_option linter.unusedVariables false
theorem open23 (H : Type) (enc : TypeId × Value → H) (w : World) (base : Nat) (spare : Nat → Bool) (held : Bool) (fuel : Nat) (cs : List Value) (x : DataW H × List MemPlace) (h : DataW.trod enc Try.prog w base spare held fuel 23 cs = some x) :
    ∃ c0 c1 : Value, ∃ (y0 : Int) (y1 : ByteArray), cs = [c0, c1] ∧ ((Kd.int .i64)).K w y0 [c0] ∧ (Kd.string).K w y1 [c1] ∧ (Light Try.prog 23 x.1 → (Lit.int .i64 y0).wf = true ∧ y1.size ≤ reach) := by
  obtain ⟨xs, n, _, rfl, hl, hlen, hf⟩ := DataW.trod_struct Try.underlying23 h
  have hN : Try.prog.cellsOf 23 = 2 := by kernel_rfl
  rw [hN] at hl
  obtain ⟨c0, c1, rfl⟩ : ∃ c0 c1, cs = [c0, c1] := by
    clear hf
    match cs, hl with
    | [c0, c1], _ => exact ⟨_, _, rfl⟩
  clear hl
  simp only [List.size_toArray, List.length_cons, List.length_nil] at hlen
  obtain ⟨z0, hz0⟩ : ∃ z, xs[0]? = some z := ⟨_, List.getElem?_eq_getElem (by omega)⟩
  have e0 : DataW.trod enc Try.prog w base spare held n 3 (([c0, c1].drop 0).take (Try.prog.cellsOf 3)) = xs[0]? := hf 0 _ rfl
  rw [show Try.prog.cellsOf 3 = 1 from by kernel_rfl, hz0] at e0
  obtain ⟨y0, hk0, hw0⟩ := (rs_int Try.underlying3) H enc w base spare held n [c0] _ e0
  obtain ⟨z1, hz1⟩ : ∃ z, xs[1]? = some z := ⟨_, List.getElem?_eq_getElem (by omega)⟩
  have e1 : DataW.trod enc Try.prog w base spare held n 9 (([c0, c1].drop 1).take (Try.prog.cellsOf 9)) = xs[1]? := hf 1 _ rfl
  rw [show Try.prog.cellsOf 9 = 1 from by kernel_rfl, hz1] at e1
  obtain ⟨y1, hk1, hw1⟩ := (rs_string Try.underlying9) H enc w base spare held n [c1] _ e1
  exact ⟨_, _, y0, y1, rfl, hk0, hk1, fun hL => ⟨hw0 (light_part Try.underlying23 hL (j := 0) rfl (by rw [List.getElem?_map, hz0]; rfl)), hw1 (light_part Try.underlying23 hL (j := 1) rfl (by rw [List.getElem?_map, hz1]; rfl))⟩⟩
/-- A value of this type is well formed. -/
def W23 (x : S23) : Prop := (Lit.int .i64 x.f0).wf = true ∧ x.f1.size ≤ reach
theorem rs23 : Rs k23 W23 Try.prog 23 := by
  intro H enc w base spare held fuel cs x h
  obtain ⟨c0, c1, y0, y1, rfl, hk0, hk1, hw⟩ := open23 H enc w base spare held fuel cs x h
  exact ⟨⟨y0, y1⟩, ⟨[c0], [c1], rfl, hk0, hk1⟩, hw⟩
theorem open25 (H : Type) (enc : TypeId × Value → H) (w : World) (base : Nat) (spare : Nat → Bool) (held : Bool) (fuel : Nat) (cs : List Value) (x : DataW H × List MemPlace) (h : DataW.trod enc Try.prog w base spare held fuel 25 cs = some x) :
    ∃ c0 c1 c2 c3 : Value, ∃ (y0 : Int) (y1 : Int) (y2 : Int) (y3 : Int), cs = [c0, c1, c2, c3] ∧ ((Kd.int .i64)).K w y0 [c0] ∧ ((Kd.int .i64)).K w y1 [c1] ∧ ((Kd.int .i64)).K w y2 [c2] ∧ ((Kd.int .i64)).K w y3 [c3] ∧ (Light Try.prog 25 x.1 → (Lit.int .i64 y0).wf = true ∧ (Lit.int .i64 y1).wf = true ∧ (Lit.int .i64 y2).wf = true ∧ (Lit.int .i64 y3).wf = true) := by
  obtain ⟨xs, n, _, rfl, hl, hlen, hf⟩ := DataW.trod_struct Try.underlying25 h
  have hN : Try.prog.cellsOf 25 = 4 := by kernel_rfl
  rw [hN] at hl
  obtain ⟨c0, c1, c2, c3, rfl⟩ : ∃ c0 c1 c2 c3, cs = [c0, c1, c2, c3] := by
    clear hf
    match cs, hl with
    | [c0, c1, c2, c3], _ => exact ⟨_, _, _, _, rfl⟩
  clear hl
  simp only [List.size_toArray, List.length_cons, List.length_nil] at hlen
  obtain ⟨z0, hz0⟩ : ∃ z, xs[0]? = some z := ⟨_, List.getElem?_eq_getElem (by omega)⟩
  have e0 : DataW.trod enc Try.prog w base spare held n 2 (([c0, c1, c2, c3].drop 0).take (Try.prog.cellsOf 2)) = xs[0]? := hf 0 _ rfl
  rw [show Try.prog.cellsOf 2 = 1 from by kernel_rfl, hz0] at e0
  obtain ⟨y0, hk0, hw0⟩ := (rs_int Try.underlying2) H enc w base spare held n [c0] _ e0
  obtain ⟨z1, hz1⟩ : ∃ z, xs[1]? = some z := ⟨_, List.getElem?_eq_getElem (by omega)⟩
  have e1 : DataW.trod enc Try.prog w base spare held n 2 (([c0, c1, c2, c3].drop 1).take (Try.prog.cellsOf 2)) = xs[1]? := hf 1 _ rfl
  rw [show Try.prog.cellsOf 2 = 1 from by kernel_rfl, hz1] at e1
  obtain ⟨y1, hk1, hw1⟩ := (rs_int Try.underlying2) H enc w base spare held n [c1] _ e1
  obtain ⟨z2, hz2⟩ : ∃ z, xs[2]? = some z := ⟨_, List.getElem?_eq_getElem (by omega)⟩
  have e2 : DataW.trod enc Try.prog w base spare held n 2 (([c0, c1, c2, c3].drop 2).take (Try.prog.cellsOf 2)) = xs[2]? := hf 2 _ rfl
  rw [show Try.prog.cellsOf 2 = 1 from by kernel_rfl, hz2] at e2
  obtain ⟨y2, hk2, hw2⟩ := (rs_int Try.underlying2) H enc w base spare held n [c2] _ e2
  obtain ⟨z3, hz3⟩ : ∃ z, xs[3]? = some z := ⟨_, List.getElem?_eq_getElem (by omega)⟩
  have e3 : DataW.trod enc Try.prog w base spare held n 2 (([c0, c1, c2, c3].drop 3).take (Try.prog.cellsOf 2)) = xs[3]? := hf 3 _ rfl
  rw [show Try.prog.cellsOf 2 = 1 from by kernel_rfl, hz3] at e3
  obtain ⟨y3, hk3, hw3⟩ := (rs_int Try.underlying2) H enc w base spare held n [c3] _ e3
  exact ⟨_, _, _, _, y0, y1, y2, y3, rfl, hk0, hk1, hk2, hk3, fun hL => ⟨hw0 (light_part Try.underlying25 hL (j := 0) rfl (by rw [List.getElem?_map, hz0]; rfl)), hw1 (light_part Try.underlying25 hL (j := 1) rfl (by rw [List.getElem?_map, hz1]; rfl)), hw2 (light_part Try.underlying25 hL (j := 2) rfl (by rw [List.getElem?_map, hz2]; rfl)), hw3 (light_part Try.underlying25 hL (j := 3) rfl (by rw [List.getElem?_map, hz3]; rfl))⟩⟩
/-- A value of this type is well formed. -/
def W25 (x : S25) : Prop := (Lit.int .i64 x.f0).wf = true ∧ (Lit.int .i64 x.f1).wf = true ∧ (Lit.int .i64 x.f2).wf = true ∧ (Lit.int .i64 x.f3).wf = true
theorem rs25 : Rs k25 W25 Try.prog 25 := by
  intro H enc w base spare held fuel cs x h
  obtain ⟨c0, c1, c2, c3, y0, y1, y2, y3, rfl, hk0, hk1, hk2, hk3, hw⟩ := open25 H enc w base spare held fuel cs x h
  exact ⟨⟨y0, y1, y2, y3⟩, ⟨[c0], [c1, c2, c3], rfl, hk0, ⟨[c1], [c2, c3], rfl, hk1, ⟨[c2], [c3], rfl, hk2, hk3⟩⟩⟩, hw⟩
theorem open27 (H : Type) (enc : TypeId × Value → H) (w : World) (base : Nat) (spare : Nat → Bool) (held : Bool) (fuel : Nat) (cs : List Value) (x : DataW H × List MemPlace) (h : DataW.trod enc Try.prog w base spare held fuel 27 cs = some x) :
    ∃ c0 c1 c2 c3 c4 c5 c6 c7 c8 c9 c10 : Value, ∃ (y0 : Int) (y1 : ByteArray) (y2 : S23) (y3 : S25) (y4 : Int) (y5 : Int) (y6 : ByteArray), cs = [c0, c1, c2, c3, c4, c5, c6, c7, c8, c9, c10] ∧ ((Kd.int .i64)).K w y0 [c0] ∧ (Kd.string).K w y1 [c1] ∧ (k23).K w y2 [c2, c3] ∧ (k25).K w y3 [c4, c5, c6, c7] ∧ ((Kd.int .i64)).K w y4 [c8] ∧ ((Kd.int .i64)).K w y5 [c9] ∧ (Kd.string).K w y6 [c10] ∧ (Light Try.prog 27 x.1 → (Lit.int .i64 y0).wf = true ∧ y1.size ≤ reach ∧ W23 y2 ∧ W25 y3 ∧ (Lit.int .i64 y4).wf = true ∧ (Lit.int .i64 y5).wf = true ∧ y6.size ≤ reach) := by
  obtain ⟨xs, n, _, rfl, hl, hlen, hf⟩ := DataW.trod_struct Try.underlying27 h
  have hN : Try.prog.cellsOf 27 = 11 := by kernel_rfl
  rw [hN] at hl
  obtain ⟨c0, c1, c2, c3, c4, c5, c6, c7, c8, c9, c10, rfl⟩ : ∃ c0 c1 c2 c3 c4 c5 c6 c7 c8 c9 c10, cs = [c0, c1, c2, c3, c4, c5, c6, c7, c8, c9, c10] := by
    clear hf
    match cs, hl with
    | [c0, c1, c2, c3, c4, c5, c6, c7, c8, c9, c10], _ => exact ⟨_, _, _, _, _, _, _, _, _, _, _, rfl⟩
  clear hl
  simp only [List.size_toArray, List.length_cons, List.length_nil] at hlen
  obtain ⟨z0, hz0⟩ : ∃ z, xs[0]? = some z := ⟨_, List.getElem?_eq_getElem (by omega)⟩
  have e0 : DataW.trod enc Try.prog w base spare held n 3 (([c0, c1, c2, c3, c4, c5, c6, c7, c8, c9, c10].drop 0).take (Try.prog.cellsOf 3)) = xs[0]? := hf 0 _ rfl
  rw [show Try.prog.cellsOf 3 = 1 from by kernel_rfl, hz0] at e0
  obtain ⟨y0, hk0, hw0⟩ := (rs_int Try.underlying3) H enc w base spare held n [c0] _ e0
  obtain ⟨z1, hz1⟩ : ∃ z, xs[1]? = some z := ⟨_, List.getElem?_eq_getElem (by omega)⟩
  have e1 : DataW.trod enc Try.prog w base spare held n 9 (([c0, c1, c2, c3, c4, c5, c6, c7, c8, c9, c10].drop 1).take (Try.prog.cellsOf 9)) = xs[1]? := hf 1 _ rfl
  rw [show Try.prog.cellsOf 9 = 1 from by kernel_rfl, hz1] at e1
  obtain ⟨y1, hk1, hw1⟩ := (rs_string Try.underlying9) H enc w base spare held n [c1] _ e1
  obtain ⟨z2, hz2⟩ : ∃ z, xs[2]? = some z := ⟨_, List.getElem?_eq_getElem (by omega)⟩
  have e2 : DataW.trod enc Try.prog w base spare held n 23 (([c0, c1, c2, c3, c4, c5, c6, c7, c8, c9, c10].drop 2).take (Try.prog.cellsOf 23)) = xs[2]? := hf 2 _ rfl
  rw [show Try.prog.cellsOf 23 = 2 from by kernel_rfl, hz2] at e2
  obtain ⟨y2, hk2, hw2⟩ := rs23 H enc w base spare held n [c2, c3] _ e2
  obtain ⟨z3, hz3⟩ : ∃ z, xs[3]? = some z := ⟨_, List.getElem?_eq_getElem (by omega)⟩
  have e3 : DataW.trod enc Try.prog w base spare held n 25 (([c0, c1, c2, c3, c4, c5, c6, c7, c8, c9, c10].drop 4).take (Try.prog.cellsOf 25)) = xs[3]? := hf 3 _ rfl
  rw [show Try.prog.cellsOf 25 = 4 from by kernel_rfl, hz3] at e3
  obtain ⟨y3, hk3, hw3⟩ := rs25 H enc w base spare held n [c4, c5, c6, c7] _ e3
  obtain ⟨z4, hz4⟩ : ∃ z, xs[4]? = some z := ⟨_, List.getElem?_eq_getElem (by omega)⟩
  have e4 : DataW.trod enc Try.prog w base spare held n 3 (([c0, c1, c2, c3, c4, c5, c6, c7, c8, c9, c10].drop 8).take (Try.prog.cellsOf 3)) = xs[4]? := hf 4 _ rfl
  rw [show Try.prog.cellsOf 3 = 1 from by kernel_rfl, hz4] at e4
  obtain ⟨y4, hk4, hw4⟩ := (rs_int Try.underlying3) H enc w base spare held n [c8] _ e4
  obtain ⟨z5, hz5⟩ : ∃ z, xs[5]? = some z := ⟨_, List.getElem?_eq_getElem (by omega)⟩
  have e5 : DataW.trod enc Try.prog w base spare held n 3 (([c0, c1, c2, c3, c4, c5, c6, c7, c8, c9, c10].drop 9).take (Try.prog.cellsOf 3)) = xs[5]? := hf 5 _ rfl
  rw [show Try.prog.cellsOf 3 = 1 from by kernel_rfl, hz5] at e5
  obtain ⟨y5, hk5, hw5⟩ := (rs_int Try.underlying3) H enc w base spare held n [c9] _ e5
  obtain ⟨z6, hz6⟩ : ∃ z, xs[6]? = some z := ⟨_, List.getElem?_eq_getElem (by omega)⟩
  have e6 : DataW.trod enc Try.prog w base spare held n 9 (([c0, c1, c2, c3, c4, c5, c6, c7, c8, c9, c10].drop 10).take (Try.prog.cellsOf 9)) = xs[6]? := hf 6 _ rfl
  rw [show Try.prog.cellsOf 9 = 1 from by kernel_rfl, hz6] at e6
  obtain ⟨y6, hk6, hw6⟩ := (rs_string Try.underlying9) H enc w base spare held n [c10] _ e6
  exact ⟨_, _, _, _, _, _, _, _, _, _, _, y0, y1, y2, y3, y4, y5, y6, rfl, hk0, hk1, hk2, hk3, hk4, hk5, hk6, fun hL => ⟨hw0 (light_part Try.underlying27 hL (j := 0) rfl (by rw [List.getElem?_map, hz0]; rfl)), hw1 (light_part Try.underlying27 hL (j := 1) rfl (by rw [List.getElem?_map, hz1]; rfl)), hw2 (light_part Try.underlying27 hL (j := 2) rfl (by rw [List.getElem?_map, hz2]; rfl)), hw3 (light_part Try.underlying27 hL (j := 3) rfl (by rw [List.getElem?_map, hz3]; rfl)), hw4 (light_part Try.underlying27 hL (j := 4) rfl (by rw [List.getElem?_map, hz4]; rfl)), hw5 (light_part Try.underlying27 hL (j := 5) rfl (by rw [List.getElem?_map, hz5]; rfl)), hw6 (light_part Try.underlying27 hL (j := 6) rfl (by rw [List.getElem?_map, hz6]; rfl))⟩⟩
/-- A value of this type is well formed. -/
def W27 (x : S27) : Prop := (Lit.int .i64 x.f0).wf = true ∧ x.f1.size ≤ reach ∧ W23 x.f2 ∧ W25 x.f3 ∧ (Lit.int .i64 x.f4).wf = true ∧ (Lit.int .i64 x.f5).wf = true ∧ x.f6.size ≤ reach
theorem rs27 : Rs k27 W27 Try.prog 27 := by
  intro H enc w base spare held fuel cs x h
  obtain ⟨c0, c1, c2, c3, c4, c5, c6, c7, c8, c9, c10, y0, y1, y2, y3, y4, y5, y6, rfl, hk0, hk1, hk2, hk3, hk4, hk5, hk6, hw⟩ := open27 H enc w base spare held fuel cs x h
  exact ⟨⟨y0, y1, y2, y3, y4, y5, y6⟩, ⟨[c0], [c1, c2, c3, c4, c5, c6, c7, c8, c9, c10], rfl, hk0, ⟨[c1], [c2, c3, c4, c5, c6, c7, c8, c9, c10], rfl, hk1, ⟨[c2, c3], [c4, c5, c6, c7, c8, c9, c10], rfl, hk2, ⟨[c4, c5, c6, c7], [c8, c9, c10], rfl, hk3, ⟨[c8], [c9, c10], rfl, hk4, ⟨[c9], [c10], rfl, hk5, hk6⟩⟩⟩⟩⟩⟩, hw⟩
end Go.Proofs.Yticoaaddhhiglaa.Q
