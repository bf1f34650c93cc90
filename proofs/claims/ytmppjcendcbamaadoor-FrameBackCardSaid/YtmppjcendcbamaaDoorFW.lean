/- What the table of the sum's steps reads as when the call begins: its cells; a first world in which it lies. -/
import Derived.Test.YtmppjcendcbamaaDoorRows
import Derived.Test.YtmppjcendcbamaaDoorG
import Derived.ChangeSame
import Derived.ChangeVars
import Derived.JoinedOf
import Derived.RowKit
import Derived.OpenShut
namespace Go.Proofs.YtmppjcendcbamaaDoor.Q
open Go.ChangeShapes Go.WideShapes Go.RowKit
theorem glob0 : Tryd.prog.globalNamed "manometer/frame.steps" = some 0 := by kernel_rfl
theorem globT : (Tryd.prog.globals[0]?).map (·.type) = some 57 := by kernel_rfl
theorem cells57 : Tryd.prog.cellsOf 57 = 16 := by kernel_rfl
theorem cells35 : Tryd.prog.cellsOf 35 = 1 := by kernel_rfl
theorem int_of_trod {H : Type} {enc : TypeId × Value → H} {P : Program} {w : World} {base : Nat} {sp : Nat → Bool} {held : Bool} {fuel : Nat} {t : TypeId} {k : IntKind} {c : Value} {y : DataW H × List MemPlace}
    (ht : P.underlying t = some (.int k)) (h : DataW.trod enc P w base sp held fuel t [c] = some y) : ∃ n, c = .int k n ∧ y = (.lit (.int k n), []) := by
  cases fuel with
  | zero => simp [DataW.trod] at h
  | succ fuel =>
    cases c <;> simp [DataW.trod, ht] at h
    rename_i k' n
    obtain ⟨⟨rfl, _⟩, rfl⟩ := h
    exact ⟨n, rfl, rfl⟩
abbrev laidList {H : Type} : List (String × DataW H) := [("manometer/frame.steps", Rows.laid_manometer_frame_steps)]
theorem laid_at {H : Type} : ∀ j, j < 16 → (match (Rows.laid_manometer_frame_steps : DataW H) with | .agg l => l[j]? | _ => none) = some (.lit (.int .u32 (stepsN.getD j 0 : Nat))) := by
  intro j hj
  have : j = 0 ∨ j = 1 ∨ j = 2 ∨ j = 3 ∨ j = 4 ∨ j = 5 ∨ j = 6 ∨ j = 7 ∨ j = 8 ∨ j = 9 ∨ j = 10 ∨ j = 11 ∨ j = 12 ∨ j = 13 ∨ j = 14 ∨ j = 15 := by omega
  rcases this with rfl | rfl | rfl | rfl | rfl | rfl | rfl | rfl | rfl | rfl | rfl | rfl | rfl | rfl | rfl | rfl <;> rfl
theorem Glob.of_laid {W : World} (h : laidMet Tryd.prog [("manometer/frame.steps", Rows.laid_manometer_frame_steps)] W) : Glob W := by
  obtain ⟨ps, ⟨g, t, cs, fuel, p, q, hg, ht, hvar, hd, _, _⟩, _⟩ := h
  obtain rfl := Option.some.inj (glob0.symm.trans hg)
  obtain rfl := Option.some.inj (globT.symm.trans ht)
  intro j hj
  obtain ⟨xs, m, rfl, hx, hl, hn, hf⟩ := DataW.trod_array Tryd.underlying57 hd
  simp only [Prod.mk.injEq] at hx
  have hx1 : (xs.map (·.1))[j]? = some (.lit (.int .u32 (stepsN.getD j 0 : Nat))) := by
    have := laid_at (H := Unit) j hj
    rw [hx.1] at this
    exact this
  rw [List.getElem?_map, Option.map_eq_some_iff] at hx1
  obtain ⟨y, hy, hy1⟩ := hx1
  have h1 := hf j hj
  rw [cells35, hy, Nat.mul_one] at h1
  rw [cells57] at hl
  obtain ⟨c, hc⟩ : ∃ c, cs.toList[j]? = some c := ⟨_, List.getElem?_eq_getElem (by omega)⟩
  have hd1 : (cs.toList.drop j).take 1 = [c] := by
    rw [List.drop_eq_getElem_cons (by omega), List.take_succ_cons, List.take_zero]
    rw [List.getElem?_eq_getElem (by omega)] at hc
    rw [Option.some.inj hc]
  rw [hd1] at h1
  obtain ⟨n, rfl, rfl⟩ := int_of_trod Tryd.underlying35 h1
  simp only [DataW.lit.injEq, Lit.int.injEq, true_and] at hy1
  subst hy1
  rw [World.var?_cell hg hvar j]
  simpa using hc
def cells16 : Array Value := #[.int .u32 0, .int .u32 274646895, .int .u32 549293790, .int .u32 820201905, .int .u32 1098587580, .int .u32 1361435347, .int .u32 1640403810, .int .u32 1905808397, .int .u32 2197175160, .int .u32 2460548119, .int .u32 2722870694, .int .u32 2987750089, .int .u32 3280807620, .int .u32 3553878443, .int .u32 3811616794, .int .u32 4084100981]
noncomputable def laidWorld (os : Os) : World :=
  { World.holding Tryd.prog os ⟨#[], #[], []⟩ with heap := (World.holding Tryd.prog os ⟨#[], #[], []⟩).heap.modify 0 fun
      | .cells _ t frozen => .cells cells16 t frozen
      | o => o }
theorem laidWorld_row (os : Os) (args : Array Value) : ((laidWorld os).forCall (fun _ _ => 0) ⟨#[], args, []⟩).memory.heap[0]? = some (.cells cells16 57 (0, 0)) := by kernel_rfl
set_option maxRecDepth 100000 in
theorem laid_wit (os : Os) (args : Array Value) : laidMet Tryd.prog [("manometer/frame.steps", Rows.laid_manometer_frame_steps)] ((laidWorld os).forCall (fun _ _ => 0) ⟨#[], args, []⟩).memory :=
  ⟨_, ⟨0, 57, cells16, 8, [], [], by kernel_rfl, by kernel_rfl, by kernel_rfl, by kernel_rfl, rfl, rfl⟩, by decide, fun b off h => by
    have h' : MemPlace.cell b off ∈ [MemPlace.cell 0 0, .cell 0 1, .cell 0 2, .cell 0 3, .cell 0 4, .cell 0 5, .cell 0 6, .cell 0 7, .cell 0 8, .cell 0 9, .cell 0 10, .cell 0 11, .cell 0 12, .cell 0 13, .cell 0 14, .cell 0 15] := h
    have hb : b = 0 ∧ off < 16 := by
      simp only [List.mem_cons, MemPlace.cell.injEq, List.not_mem_nil, or_false] at h'
      omega
    obtain ⟨rfl, ho⟩ := hb
    refine ⟨⟨_, _, laidWorld_row os args⟩, fun u v hc => ?_⟩
    simp only [World.cell?, laidWorld_row os args] at hc
    have : off = 0 ∨ off = 1 ∨ off = 2 ∨ off = 3 ∨ off = 4 ∨ off = 5 ∨ off = 6 ∨ off = 7 ∨ off = 8 ∨ off = 9 ∨ off = 10 ∨ off = 11 ∨ off = 12 ∨ off = 13 ∨ off = 14 ∨ off = 15 := by omega
    rcases this with rfl | rfl | rfl | rfl | rfl | rfl | rfl | rfl | rfl | rfl | rfl | rfl | rfl | rfl | rfl | rfl <;> simp [cells16] at hc⟩
end Go.Proofs.YtmppjcendcbamaaDoor.Q
