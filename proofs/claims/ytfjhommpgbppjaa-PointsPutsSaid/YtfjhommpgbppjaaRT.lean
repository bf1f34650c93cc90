-- Readings of the types that the laws take (by row2.py, a program of this session).
import Derived.Test.YtfjhommpgbppjaaRW
import Derived.Test.YtfjhommpgbppjaaQ0
import Derived.KernelRfl
namespace Go.Proofs.Ytfjhommpgbppjaa.Q
open Go.RowKit Go.Proofs.YtfjhommpgbppjaaW.PrintWords Go.Proofs.YtfjhommpgbppjaaW.PrintLast Go.Proofs.YtfjhommpgbppjaaW.PrintMore Go.Proofs.YtfjhommpgbppjaaW.RowWords
set_option linter.unusedVariables false

theorem open25 (H : Type) (enc : TypeId × Value → H) (w : World) (base : Nat) (spare : Nat → Bool) (held : Bool) (fuel : Nat) (cs : List Value) (x : DataW H × List MemPlace) (h : DataW.trod enc Try.prog w base spare held fuel 25 cs = some x) :
    ∃ c0 c1 c2 : Value, ∃ (y0 : Int) (y1 : Int) (y2 : Int), cs = [c0, c1, c2] ∧ ((Kd.int .i64)).K w y0 [c0] ∧ ((Kd.int .u64)).K w y1 [c1] ∧ ((Kd.int .u64)).K w y2 [c2] ∧ (Lit.int .i64 y0).wf = true ∧ (Lit.int .u64 y1).wf = true ∧ (Lit.int .u64 y2).wf = true := by
  obtain ⟨xs, n, _, rfl, hl, hlen, hf⟩ := DataW.trod_struct Try.underlying25 h
  have hN : Try.prog.cellsOf 25 = 3 := by kernel_rfl
  rw [hN] at hl
  match cs, hl with
  | [c0, c1, c2], _ =>
    simp only [List.size_toArray, List.length_cons, List.length_nil] at hlen
    obtain ⟨z0, hz0⟩ : ∃ z, xs[0]? = some z := ⟨_, List.getElem?_eq_getElem (by omega)⟩
    have e0 : DataW.trod enc Try.prog w base spare held n 2 (([c0, c1, c2].drop 0).take (Try.prog.cellsOf 2)) = xs[0]? := hf 0 _ rfl
    rw [show Try.prog.cellsOf 2 = 1 from by kernel_rfl, hz0] at e0
    obtain ⟨y0, hk0, hw0⟩ := (rd_int Try.underlying2) H enc w base spare held n [c0] _ e0
    obtain ⟨z1, hz1⟩ : ∃ z, xs[1]? = some z := ⟨_, List.getElem?_eq_getElem (by omega)⟩
    have e1 : DataW.trod enc Try.prog w base spare held n 23 (([c0, c1, c2].drop 1).take (Try.prog.cellsOf 23)) = xs[1]? := hf 1 _ rfl
    rw [show Try.prog.cellsOf 23 = 1 from by kernel_rfl, hz1] at e1
    obtain ⟨y1, hk1, hw1⟩ := (rd_int Try.underlying23) H enc w base spare held n [c1] _ e1
    obtain ⟨z2, hz2⟩ : ∃ z, xs[2]? = some z := ⟨_, List.getElem?_eq_getElem (by omega)⟩
    have e2 : DataW.trod enc Try.prog w base spare held n 23 (([c0, c1, c2].drop 2).take (Try.prog.cellsOf 23)) = xs[2]? := hf 2 _ rfl
    rw [show Try.prog.cellsOf 23 = 1 from by kernel_rfl, hz2] at e2
    obtain ⟨y2, hk2, hw2⟩ := (rd_int Try.underlying23) H enc w base spare held n [c2] _ e2
    exact ⟨_, _, _, y0, y1, y2, rfl, hk0, hk1, hk2, hw0, hw1, hw2⟩
/-- A value of this type is well formed. -/
def W25 (x : S25) : Prop := (Lit.int .i64 x.f0).wf = true ∧ (Lit.int .u64 x.f1).wf = true ∧ (Lit.int .u64 x.f2).wf = true
theorem rd25 : Rd k25 W25 Try.prog 25 := by
  intro H enc w base spare held fuel cs x h
  obtain ⟨c0, c1, c2, y0, y1, y2, rfl, hk0, hk1, hk2, hw0, hw1, hw2⟩ := open25 H enc w base spare held fuel cs x h
  exact ⟨⟨y0, y1, y2⟩, ⟨[c0], [c1, c2], rfl, hk0, ⟨[c1], [c2], rfl, hk1, hk2⟩⟩, ⟨hw0, hw1, hw2⟩⟩

theorem open40 (H : Type) (enc : TypeId × Value → H) (w : World) (base : Nat) (spare : Nat → Bool) (held : Bool) (fuel : Nat) (cs : List Value) (x : DataW H × List MemPlace) (h : DataW.trod enc Try.prog w base spare held fuel 40 cs = some x) :
    ∃ c0 c1 c2 c3 c4 c5 : Value, ∃ (y0 : Int) (y1 : Int) (y2 : Int) (y3 : Int) (y4 : Int) (y5 : Int), cs = [c0, c1, c2, c3, c4, c5] ∧ ((Kd.int .i64)).K w y0 [c0] ∧ ((Kd.int .i64)).K w y1 [c1] ∧ ((Kd.int .i64)).K w y2 [c2] ∧ ((Kd.int .u64)).K w y3 [c3] ∧ ((Kd.int .u64)).K w y4 [c4] ∧ ((Kd.int .u64)).K w y5 [c5] ∧ (Lit.int .i64 y0).wf = true ∧ (Lit.int .i64 y1).wf = true ∧ (Lit.int .i64 y2).wf = true ∧ (Lit.int .u64 y3).wf = true ∧ (Lit.int .u64 y4).wf = true ∧ (Lit.int .u64 y5).wf = true := by
  obtain ⟨xs, n, _, rfl, hl, hlen, hf⟩ := DataW.trod_struct Try.underlying40 h
  have hN : Try.prog.cellsOf 40 = 6 := by kernel_rfl
  rw [hN] at hl
  match cs, hl with
  | [c0, c1, c2, c3, c4, c5], _ =>
    simp only [List.size_toArray, List.length_cons, List.length_nil] at hlen
    obtain ⟨z0, hz0⟩ : ∃ z, xs[0]? = some z := ⟨_, List.getElem?_eq_getElem (by omega)⟩
    have e0 : DataW.trod enc Try.prog w base spare held n 2 (([c0, c1, c2, c3, c4, c5].drop 0).take (Try.prog.cellsOf 2)) = xs[0]? := hf 0 _ rfl
    rw [show Try.prog.cellsOf 2 = 1 from by kernel_rfl, hz0] at e0
    obtain ⟨y0, hk0, hw0⟩ := (rd_int Try.underlying2) H enc w base spare held n [c0] _ e0
    obtain ⟨z1, hz1⟩ : ∃ z, xs[1]? = some z := ⟨_, List.getElem?_eq_getElem (by omega)⟩
    have e1 : DataW.trod enc Try.prog w base spare held n 2 (([c0, c1, c2, c3, c4, c5].drop 1).take (Try.prog.cellsOf 2)) = xs[1]? := hf 1 _ rfl
    rw [show Try.prog.cellsOf 2 = 1 from by kernel_rfl, hz1] at e1
    obtain ⟨y1, hk1, hw1⟩ := (rd_int Try.underlying2) H enc w base spare held n [c1] _ e1
    obtain ⟨z2, hz2⟩ : ∃ z, xs[2]? = some z := ⟨_, List.getElem?_eq_getElem (by omega)⟩
    have e2 : DataW.trod enc Try.prog w base spare held n 2 (([c0, c1, c2, c3, c4, c5].drop 2).take (Try.prog.cellsOf 2)) = xs[2]? := hf 2 _ rfl
    rw [show Try.prog.cellsOf 2 = 1 from by kernel_rfl, hz2] at e2
    obtain ⟨y2, hk2, hw2⟩ := (rd_int Try.underlying2) H enc w base spare held n [c2] _ e2
    obtain ⟨z3, hz3⟩ : ∃ z, xs[3]? = some z := ⟨_, List.getElem?_eq_getElem (by omega)⟩
    have e3 : DataW.trod enc Try.prog w base spare held n 23 (([c0, c1, c2, c3, c4, c5].drop 3).take (Try.prog.cellsOf 23)) = xs[3]? := hf 3 _ rfl
    rw [show Try.prog.cellsOf 23 = 1 from by kernel_rfl, hz3] at e3
    obtain ⟨y3, hk3, hw3⟩ := (rd_int Try.underlying23) H enc w base spare held n [c3] _ e3
    obtain ⟨z4, hz4⟩ : ∃ z, xs[4]? = some z := ⟨_, List.getElem?_eq_getElem (by omega)⟩
    have e4 : DataW.trod enc Try.prog w base spare held n 23 (([c0, c1, c2, c3, c4, c5].drop 4).take (Try.prog.cellsOf 23)) = xs[4]? := hf 4 _ rfl
    rw [show Try.prog.cellsOf 23 = 1 from by kernel_rfl, hz4] at e4
    obtain ⟨y4, hk4, hw4⟩ := (rd_int Try.underlying23) H enc w base spare held n [c4] _ e4
    obtain ⟨z5, hz5⟩ : ∃ z, xs[5]? = some z := ⟨_, List.getElem?_eq_getElem (by omega)⟩
    have e5 : DataW.trod enc Try.prog w base spare held n 23 (([c0, c1, c2, c3, c4, c5].drop 5).take (Try.prog.cellsOf 23)) = xs[5]? := hf 5 _ rfl
    rw [show Try.prog.cellsOf 23 = 1 from by kernel_rfl, hz5] at e5
    obtain ⟨y5, hk5, hw5⟩ := (rd_int Try.underlying23) H enc w base spare held n [c5] _ e5
    exact ⟨_, _, _, _, _, _, y0, y1, y2, y3, y4, y5, rfl, hk0, hk1, hk2, hk3, hk4, hk5, hw0, hw1, hw2, hw3, hw4, hw5⟩

end Go.Proofs.Ytfjhommpgbppjaa.Q
