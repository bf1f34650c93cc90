/- Walks of the disk by hand: Read of a file of three bytes. -/
import Derived.Test.YtkdbojaoaldmbaaD8
import Derived.Lib.SliceRun
namespace Go.Proofs.Ytkdbojaoaldmbaa.D
open Go.RowKit Go.Proofs.Ytkdbojaoaldmbaa.Q Go.Proofs.YtkdbojaoaldmbaaW.PrintWords Go.Proofs.YtkdbojaoaldmbaaW.PrintLast Go.Proofs.YtkdbojaoaldmbaaW.PrintMore
set_option linter.unusedVariables false
set_option linter.unusedSimpArgs false

theorem row_cell {w : World} {g : Nat} {c : Nat} {xs : List Int} (h : RowAt w (some ⟨g, 0, none⟩) c xs) (i : Nat) (x : Int) (hi : xs[i]? = some x) : w.cell? ⟨g, i, none⟩ = some (.int .u8 x) := by
  rcases h.2.2 with ⟨e, _⟩ | ⟨g', cur, fz, e, hb, ht⟩
  · cases e
  · cases e
    have hlt : i < xs.length := by
      rcases Nat.lt_or_ge i xs.length with h | h
      · exact h
      · rw [List.getElem?_eq_none h] at hi; cases hi
    have h0 : cur.toList[i]? = some (.int .u8 x) := by
      have : (cur.toList.take xs.length)[i]? = some (.int .u8 x) := by rw [ht]; simp [u8s, hi]
      rwa [List.getElem?_take, if_pos hlt] at this
    simp only [World.cell?, hb]
    simpa using h0
set_option maxHeartbeats 1000000 in
set_option maxRecDepth 100000 in
theorem read_calls (D M F g c : Nat) (room size lasts : Int) (x y z : Int) (w : World) (h : DAt w D M room size) (hM : MOne w M F) (hF : FAt w F (some ⟨g, 0, none⟩) 3 c lasts) (hR : RowAt w (some ⟨g, 0, none⟩) c [x, y, z]) :
    Calls Try.prog 13 #[.pointer (some ⟨D, 0, none⟩), .string nm] w fun e w' => ∃ g' c', e = .returned (.tuple #[.slice (some ⟨g', 0, none⟩) 3 c', .int .i64 0]) ∧ w'.cell? ⟨g', 0, none⟩ = some (.int .u8 x) ∧ w'.cell? ⟨g', 1, none⟩ = some (.int .u8 y) ∧ w'.cell? ⟨g', 2, none⟩ = some (.int .u8 z) ∧ Chg (fun _ => False) w w' := by
  obtain ⟨c0, c1, c2⟩ := h.cells
  obtain ⟨f0, f1⟩ := hF.cells
  have x0 := row_cell hR 0 x rfl
  have x1 := row_cell hR 1 y rfl
  have x2 := row_cell hR 2 z rfl
  have f0a := fun o => Go.Lib.cell?_alloc_some (W := w) o f0
  have x0a := fun o => Go.Lib.cell?_alloc_some (W := w) o x0
  have x1a := fun o => Go.Lib.cell?_alloc_some (W := w) o x1
  have x2a := fun o => Go.Lib.cell?_alloc_some (W := w) o x2
  have hcap : Builtin.nextslicecap 3 0 = 3 := by decide
  have hby : Try.t5.bytes = 1 := rfl
  go_enter Try.func13, Try.ntmps13
  go_wp2_with (go_at_call 33; (with_reducible refine (find_calls D M F room size _ h hM).mono ?_); rintro e w' ⟨rfl, rfl⟩)
  go_ret2
  have hb := fun zs => (blk2 w' (.cells #[] 5) (.cells (#[.int .u8 x, .int .u8 y, .int .u8 z] ++ zs) 5)).1
  have hc : ∀ (zs : Array Value) (i : Nat), i < 3 → (((w'.alloc (.cells #[] 5)).alloc (.cells (#[.int .u8 x, .int .u8 y, .int .u8 z] ++ zs) 5)).drew).cell? ⟨w'.heap.size + 1, i, none⟩ = #[Value.int .u8 x, .int .u8 y, .int .u8 z][i]? := fun zs i hi => by
    show (match ((w'.alloc (.cells #[] 5)).alloc (.cells (#[.int .u8 x, .int .u8 y, .int .u8 z] ++ zs) 5)).heap[w'.heap.size + 1]? with | some (.cells c _ _) => c[i]? | _ => none) = _
    rw [hb]
    simp [Array.getElem?_append, hi]
  have hC := ((Chg.refl (fun _ => False) w').alloc (.cells #[] 5)).alloc (.cells (#[.int .u8 x, .int .u8 y, .int .u8 z] ++ (Builtin.zeroCells #[.int .u8 0] ((Question.appendCap 3 0 5).cut (w'.tape w'.drawn (Question.appendCap 3 0 5)) - 3))) 5)
  exact ⟨_, _, rfl, hc _ 0 (by decide), hc _ 1 (by decide), hc _ 2 (by decide), ⟨hC.os, hC.tape, hC.output, hC.size, hC.block⟩⟩
end Go.Proofs.Ytkdbojaoaldmbaa.D
