/- The ring by hand: what a ring is in memory; is, Nodes, all. -/
import Derived.Test.YtibilnohnildcaaR6
import Derived.Deep.MidRow
import Derived.Lib.SliceRun
namespace Go.Proofs.Ytibilnohnildcaa.R
open Go.RowKit Go.Proofs.Ytibilnohnildcaa.Q Go.Proofs.YtibilnohnildcaaW.PrintWords Go.Proofs.YtibilnohnildcaaW.PrintLast Go.Proofs.YtibilnohnildcaaW.PrintMore
set_option linter.unusedVariables false
set_option linter.unusedSimpArgs false
/-- A ring in memory. -/
structure RingG (w : World) (g n : Nat) (sp : List S52) : Prop where
  ex : ∃ A c, w.heap[g]? = some (.cells #[.int .i64 n, .slice A sp.length c] 49 (0, 0)) ∧ k52.C w A sp.length sp ∧ sp.length ≤ c
  few : sp.length ≤ 128
  pos : 0 < n
  top : n ≤ 16
theorem RingG.below {w w' : World} {g n : Nat} {sp : List S52} (h : RingG w g n sp) (hb : Below w.heap.size w w') : RingG w' g n sp := by
  obtain ⟨A, c, h1, h2, h3⟩ := h.ex
  exact ⟨⟨A, c, (hb.block g (blk_lt h1)).trans h1, Kd.C_below h2 hb, h3⟩, h.few, h.pos, h.top⟩
theorem RingG.cell {w : World} {g n : Nat} {sp : List S52} (h : RingG w g n sp) : w.cell? ⟨g, 0, none⟩ = some (.int .i64 n) := by
  obtain ⟨A, c, h1, h2, h3⟩ := h.ex
  exact (blk_cell h1 0).trans rfl
/-- Sixteen bools in memory. -/
structure Arr (w : World) (F : Nat) (L : List Bool) : Prop where
  len : L.length = 16
  range : w.rangeAt F 0 (L.map Value.bool)
  there : w.there F 0 16
theorem Arr.cell {w : World} {F : Nat} {L : List Bool} (h : Arr w F L) {i : Nat} (hi : i < 16) : w.cell? ⟨F, i, none⟩ = some (.bool (L.getD i false)) := by
  have := h.range i (.bool (L.getD i false)) (by rw [List.getElem?_map, List.getD_eq_getElem?_getD, List.getElem?_eq_getElem (by have := h.len; omega)]; rfl)
  simpa using this
theorem Arr.frozen {w : World} {F : Nat} {L : List Bool} (h : Arr w F L) {i : Nat} (hi : i < 16) : w.frozen? ⟨F, i, none⟩ = false := by
  have := (h.there i hi).2
  simpa using this
theorem Arr.lt {w : World} {F : Nat} {L : List Bool} (h : Arr w F L) : F < w.heap.size := World.block_lt_of_cell? w ⟨F, 0, none⟩ (h.cell (i := 0) (by omega))
theorem Arr.below {w w' : World} {F : Nat} {L : List Bool} (h : Arr w F L) (hb : Below w.heap.size w w') : Arr w' F L := by
  have hk := hb.block F h.lt
  refine ⟨h.len, fun j v hv => pw_cell_below hb (h.range j v hv), fun j hj => ⟨?_, ?_⟩⟩
  · obtain ⟨v, hv⟩ := Option.isSome_iff_exists.1 (h.there j hj).1
    rw [pw_cell_below hb hv]; first | done | rfl
  · have := (h.there j hj).2
    simpa [World.frozen?, hk] using this
theorem Arr.move {w w' : World} {F : Nat} {L : List Bool} (h : Arr w F L) (hk : w'.heap[F]? = w.heap[F]?) : Arr w' F L := by
  refine ⟨h.len, fun j v hv => ?_, fun j hj => ⟨?_, ?_⟩⟩
  · have := h.range j v hv
    simpa [World.cell?, hk] using this
  · have := (h.there j hj).1
    simpa [World.cell?, hk] using this
  · have := (h.there j hj).2
    simpa [World.frozen?, hk] using this
theorem Arr.far {w : World} {F G i : Nat} {L : List Bool} {v : Value} (h : Arr w F L) (hne : F ≠ G) : Arr (w.setCell ⟨G, i, none⟩ v) F L := h.move (Below.heap_setCell _ _ _ F (fun e => hne e))
theorem Arr.set {w : World} {F : Nat} {L : List Bool} (h : Arr w F L) {i : Nat} (hi : i < 16) (b : Bool) : Arr (w.setCell ⟨F, i, none⟩ (.bool b)) F (L.set i b) := by
  have hc : ∀ j, (w.setCell ⟨F, i, none⟩ (.bool b)).cell? ⟨F, j, none⟩ = if j = i then some (.bool b) else w.cell? ⟨F, j, none⟩ := fun j => by
    by_cases e : j = i
    · subst e
      rw [if_pos rfl]
      exact World.cell?_setCell_same w ⟨F, j, none⟩ (.bool b) (by rw [h.cell hi]; first | done | rfl)
    · rw [if_neg e]
      exact World.cell?_setCell_other w ⟨F, i, none⟩ ⟨F, j, none⟩ (.bool b) (fun e2 => e (by injection e2 with _ e3; exact e3.symm))
  refine ⟨by rw [List.length_set]; exact h.len, fun j v hv => ?_, fun j hj => ⟨?_, ?_⟩⟩
  · rw [Nat.zero_add, hc j]
    rw [List.getElem?_map, List.getElem?_set] at hv
    by_cases e : i = j
    · subst e
      rw [if_pos rfl]
      rw [if_pos rfl, if_pos (by have := h.len; omega)] at hv
      simpa using hv
    · rw [if_neg e] at hv
      rw [if_neg (fun e2 => e e2.symm)]
      have := h.range j v (by rw [List.getElem?_map]; exact hv)
      simpa using this
  · rw [Nat.zero_add, hc j]
    split
    · rfl
    · rw [h.cell hj]; rfl
  · have := (h.there j hj).2
    rw [Nat.zero_add] at this ⊢
    rw [← this]; simp
theorem below_sets {w : World} {F : Nat} : ∀ (vs : List Value) (o : Nat) (W : World), Below w.heap.size w W → w.heap.size ≤ F → Below w.heap.size w (W.setCells F o vs)
  | [], o, W, h, hF => h
  | v :: vs, o, W, h, hF => by
    rw [World.setCells]
    exact below_sets vs (o + 1) _ (below_set h hF) hF
theorem heap_sets {F k : Nat} : ∀ (vs : List Value) (o : Nat) (W : World), k ≠ F → (W.setCells F o vs).heap[k]? = W.heap[k]?
  | [], o, W, h => rfl
  | v :: vs, o, W, h => by
    rw [World.setCells]
    exact (heap_sets vs (o + 1) _ h).trans (Below.heap_setCell _ _ _ k (fun e => h e))
theorem results_c1 {fn : Func} {p : Tmp} {ty : TypeId} (h : fn.results = #[.cell p ty]) (tmps : Array Value) (w : World) (b : Nat) (v : Value) (hp : tmps.getD p undef = .pointer (some ⟨b, 0, none⟩)) (hl : (loadVar ty ⟨b, 0, none⟩).run Try.prog w = .ok v w) : (results fn tmps).run Try.prog w = .ok v w := by
  have hp' : tmps[p]?.getD undef = .pointer (some ⟨b, 0, none⟩) := by rw [← hp]; simp [Array.getD_eq_getD_getElem?]
  simp [results, h, hp', asAddr, hl]
set_option maxHeartbeats 400000 in
set_option maxRecDepth 100000 in
theorem is_calls {w : World} {g n : Nat} {sp : List S52} (h : RingG w g n sp) : Calls Try.prog 27 #[.pointer (some ⟨g, 0, none⟩)] w fun e w' => e = .returned (.bool true) ∧ w' = w := by
  have c0 := h.cell
  have hp : (n : Int) > 0 := by have := h.pos; omega
  have hp2 : 0 < n := h.pos
  clear h
  go_enter Try.func27, Try.ntmps27
  go_wp2
  go_ret
  exact ⟨rfl, rfl⟩
set_option maxHeartbeats 400000 in
set_option maxRecDepth 100000 in
theorem nodes_calls {w : World} {g n : Nat} {sp : List S52} (h : RingG w g n sp) : Calls Try.prog 22 #[.pointer (some ⟨g, 0, none⟩)] w fun e w' => e = .returned (.int .i64 n) ∧ w' = w := by
  have c0 := h.cell
  have HR := Aside0.mk h
  clear h
  go_enter Try.func22, Try.ntmps22
  go_wp2_with (go_at_call 27; (with_reducible refine (is_calls HR.out).mono ?_); rintro e w9 ⟨rfl, h9⟩; subst w9)
  go_ret
  exact ⟨rfl, rfl⟩
def upto (n : Nat) : List Bool := (List.range 16).map (fun j => decide (j < n))
theorem upto_len (n : Nat) : (upto n).length = 16 := by simp [upto]
theorem upto_zero : upto 0 = List.replicate 16 false := by decide
theorem upto_set (n : Nat) (h : n < 16) : (upto n).set n true = upto (n + 1) := by
  apply List.ext_getElem?
  intro j
  unfold upto
  rw [List.getElem?_set]
  by_cases hj : j < 16
  · by_cases e : n = j
    · subst e
      simp [h]
    · rw [if_neg e]
      simp only [List.getElem?_map, List.getElem?_range hj, Option.map_some]
      congr 1
      simp only [decide_eq_decide]
      omega
  · rw [if_neg (by omega), List.getElem?_eq_none (by simp; omega), List.getElem?_eq_none (by simp; omega)]
theorem arr_of {w : World} {F : Nat} {L : List Bool} {cs : Array Value} (h : w.heap[F]? = some (.cells cs 55 (0, 0))) (e : cs = (L.map Value.bool).toArray) (hl : L.length = 16) : Arr w F L := by
  subst e
  refine ⟨hl, fun j v hv => ?_, fun j hj => ⟨?_, ?_⟩⟩
  · rw [Nat.zero_add, blk_cell h j, List.getElem?_toArray, hv]
  · rw [Nat.zero_add, blk_cell h j, List.getElem?_toArray, List.getElem?_map, List.getElem?_eq_getElem (by omega)]
    rfl
  · rw [Nat.zero_add]; exact blk_frozen h j
theorem size55 : (Try.prog.info? 55).map (·.size) = some 16 := by kernel_rfl
theorem oneb (L : List Bool) : ∀ v ∈ L.map Value.bool, v.oneCell' = true := fun v hv => by
  obtain ⟨b, _, rfl⟩ := List.mem_map.1 hv
  rfl
section
variable {ops : Array Oper} {rest : List Oper} {op : Oper} {a : Act} {w : World} {Q : Exit → Act → World → Prop}
theorem load_arr (hgd : op.guard = none) (x : Operand) (ho : op.op = .load 55 x) (F : Nat) (hx : a.eval x = .pointer (some ⟨F, 0, none⟩)) (L : List Bool) (h : Arr w F L)
    (hk : wpList Try.prog ops Q rest (a.put op.dst (.agg (L.map Value.bool).toArray)) w) : wpList Try.prog ops Q (op :: rest) a w :=
  wpList_load_mid hgd 55 x ho F 0 hx (L.map Value.bool) _ h.range Try.underlying55 rfl (by rw [size55, List.length_map, h.len]) hk
theorem store_arr (hgd : op.guard = none) (x y : Operand) (ho : op.op = .store 55 x y) (F : Nat) (L L' : List Bool) (hx : a.eval x = .pointer (some ⟨F, 0, none⟩)) (hy : a.eval y = .agg (L'.map Value.bool).toArray) (h : Arr w F L) (hl : L'.length = 16)
    (hk : ∀ w1, Arr w1 F L' → (∀ k, k ≠ F → w1.heap[k]? = w.heap[k]?) → (∀ W : World, W.heap.size ≤ F → Below W.heap.size W w → Below W.heap.size W w1) → wpList Try.prog ops Q rest (a.put op.dst undef) w1) : wpList Try.prog ops Q (op :: rest) a w := by
  have hs : ((L'.map Value.bool).toArray).size = 16 := by simp [hl]
  have hs2 : (L'.map Value.bool).length = 16 := by simp [hl]
  refine wpList_store_mid hgd 55 x y ho F 0 (L'.map Value.bool).toArray hx hy (by rw [hs]; exact h.there) (by rw [size55, hs]) (all_oneCell_toArray (oneb L')) ?_
  refine hk _ ⟨hl, ?_, fun j hj => ?_⟩ (fun k hne => ?_) (fun W hF hb => below_sets _ _ _ hb hF)
  · exact World.rangeAt_setCells_same w F 0 _ (by rw [hs2]; exact h.there)
  · exact World.there_setCells h.there F 0 _ j hj
  · exact heap_sets _ _ _ hne
end
theorem box_arr (L : List Bool) (hl : L.length = 16) (W : World) : (Instr.box 55 (.agg (L.map Value.bool).toArray)).run Try.prog W = .ok (.pointer (some ⟨W.heap.size, 0, none⟩)) (W.alloc (.cells (L.map Value.bool).toArray 55)) := by
  match L, hl with
  | [b0, b1, b2, b3, b4, b5, b6, b7, b8, b9, b10, b11, b12, b13, b14, b15], _ => show _ = _; kernel_rfl
set_option maxHeartbeats 1000000 in
set_option maxRecDepth 100000 in
theorem all_calls {w : World} {g n : Nat} {sp : List S52} (h : RingG w g n sp) : Calls Try.prog 28 #[.pointer (some ⟨g, 0, none⟩)] w fun e w' => e = .returned (.agg ((upto n).map Value.bool).toArray) ∧ Below w.heap.size w w' := by
  have c0 := h.cell
  have c1 := fun o => Go.Lib.cell?_alloc_some (W := w) o c0
  have c2 := fun o o' => Go.Lib.cell?_alloc_some (W := w.alloc o) o' (c1 o)
  have htop := h.top
  have HR := Aside0.mk h
  clear h
  go_enter Try.func28, Try.ntmps28
  go_wp2
  clear c1 c2 c0
  have HW := Aside0.mk (show ∀ (o : Obj) (o' : Obj), o = .cells ((List.replicate 16 false).map Value.bool).toArray 55 → o' = o → Arr ((w.alloc o).alloc o') w.heap.size (List.replicate 16 false) ∧ Arr ((w.alloc o).alloc o') (w.heap.size + 1) (List.replicate 16 false) ∧ Below w.heap.size w ((w.alloc o).alloc o') from fun o o' e e' => by
    subst e'
    subst e
    have hz : (w.alloc (.cells ((List.replicate 16 false).map Value.bool).toArray 55)).heap.size = w.heap.size + 1 := by simp
    have h1 := arr_of (heap_alloc_new w (.cells ((List.replicate 16 false).map Value.bool).toArray 55)) rfl (by simp)
    have h2 := arr_of (heap_alloc_new (w.alloc (.cells ((List.replicate 16 false).map Value.bool).toArray 55)) (.cells ((List.replicate 16 false).map Value.bool).toArray 55)) rfl (by simp)
    rw [hz] at h2
    exact ⟨h1.below (below_alloc (Below.refl _ _) _), h2, below_alloc (below_alloc (Below.refl _ _) _) _⟩)
  have HW2 := HW.out _ _ rfl rfl
  generalize hw2 : (w.alloc (Obj.cells ((List.replicate 16 false).map Value.bool).toArray 55)).alloc (Obj.cells ((List.replicate 16 false).map Value.bool).toArray 55) = w2 at HW2
  have hw3 := hw2
  simp only [List.replicate, List.map] at hw3
  rw [hw3]
  have HW3 := Aside0.mk HW2
  clear HW HW2 hw2 hw3
  go_loopg [9] (n + 1) (fun kq v9 wr => ∃ (i : Nat), v9 = .int .i64 i ∧ Aside0 (kq + i = n + 1 ∧ i ≤ n) ∧ Aside0 (Arr wr w.heap.size (List.replicate 16 false)) ∧ Aside0 (Arr wr (w.heap.size + 1) (upto i)) ∧ Aside0 (Below w.heap.size w wr))
  case atStart => exact ⟨0, rfl, ⟨by omega⟩, ⟨HW3.out.1⟩, ⟨by rw [upto_zero]; exact HW3.out.2.1⟩, ⟨HW3.out.2.2⟩⟩
  case round =>
    obtain ⟨i, rfl, HI, HA, HU, HB⟩ := hrel
    cases gk with
    | zero => have := HI.out; omega
    | succ k1 =>
    by_cases hlt : i < n
    · have hi0 : (0 : Int) ≤ (i : Int) := by omega
      have hi1 : (i : Int) < (n : Int) := by omega
      have hi2 : (i : Int) < 16 := by omega
      have hi3 : i < 16 := by omega
      have k1' := HU.out.cell hi3
      have k2' := HU.out.frozen hi3
      have HUS := Aside0.mk (upto_set i hi3)
      go_wp2_with (fail)
      go_roundg k1
      case measure => omega
      case rel => exact ⟨i + 1, by first | rfl | (simp; done) | (rw [wrap_id (n := (i : Int) + 1) (by omega) (by omega)]; first | rfl | (simp; done)), ⟨by have := HI.out; omega⟩, ⟨HA.out.far (by omega)⟩, ⟨by rw [← HUS.out]; exact HU.out.set hi3 true⟩, ⟨below_set HB.out (by omega)⟩⟩
    · have hi : i = n := by have := HI.out; omega
      subst hi
      go_wp2_with (first
        | ((with_reducible refine gate_dst (N := 15) rfl ?_); refine load_arr rfl (.tmp 3) rfl (w.heap.size + 1) rfl (upto i) HU.out ?_)
        | (refine store_arr rfl (.tmp 2) (.tmp 15) rfl w.heap.size (List.replicate 16 false) (upto i) rfl rfl HA.out (upto_len i) ?_; intro w5 hA5 hk5 hb5; have HA5 := Aside0.mk hA5; have HB5 := Aside0.mk (hb5 w (Nat.le_refl _) HB.out); clear hA5 hk5 hb5))
      ((try simp only [Exit.inBlock, Exit.then]); refine bodyPost_ret (results_c1 rfl _ _ w.heap.size _ rfl (run_loadVar_mid _ _ _ 55 ((upto i).map Value.bool) _ HA5.out.range Try.underlying55 rfl (by rw [size55, List.length_map, upto_len]))) rfl ?_)
      exact ⟨rfl, HB5.out⟩
end Go.Proofs.Ytibilnohnildcaa.R
