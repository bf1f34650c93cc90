/- Walks of the disk by hand: List of a disk of one file. -/
import Derived.Test.YtkdbojaoaldmbaaD4
import Derived.Test.YtkdbojaoaldmbaaD6
namespace Go.Proofs.Ytkdbojaoaldmbaa.D
open Go.RowKit Go.Proofs.Ytkdbojaoaldmbaa.Q Go.Proofs.YtkdbojaoaldmbaaW.PrintWords Go.Proofs.YtkdbojaoaldmbaaW.PrintLast Go.Proofs.YtkdbojaoaldmbaaW.PrintMore
set_option linter.unusedVariables false
set_option linter.unusedSimpArgs false

theorem wpList_range_run {P : Program} (w : World) {ops : Array Oper} {rest : List Oper} {o : Oper} {a : Act} {Q : Exit → Act → World → Prop}
    (hg : o.guard = none) (m : Operand) (t : TypeId) (hop : o.op = Op.range t m) (M V : Value) (hm : a.eval m = M) (w1 : World)
    (hrun : (Instr.range t M).run P w = .ok V w1) (hK : wpList P ops Q rest (a.put o.dst V) w1) : wpList P ops Q (o :: rest) a w := by
  refine wpList_plain hg fun K' hK' => ?_
  unfold Oper.wp
  simp [execOp, hop, hm, hrun, Result.andThen]
  exact hK' _ _ hK
theorem wpList_next_run {P : Program} (w : World) {ops : Array Oper} {rest : List Oper} {o : Oper} {a : Act} {Q : Exit → Act → World → Prop}
    (hg : o.guard = none) (it : Operand) (hop : o.op = Op.next it false) (M V : Value) (hm : a.eval it = M) (w1 : World)
    (hrun : (Instr.next M false o.type).run P w = .ok V w1) (hK : wpList P ops Q rest (a.put o.dst V) w1) : wpList P ops Q (o :: rest) a w := by
  refine wpList_plain hg fun K' hK' => ?_
  unfold Oper.wp
  simp [execOp, hop, hm, hrun, Result.andThen]
  exact hK' _ _ hK
theorem Chg.setBlk {S : Nat → Prop} {w w' : World} (h : Chg S w w') (r : Nat) (o : Obj) (hr : w.heap.size ≤ r) : Chg S w (Go.ChangeMaps.setBlock w' r o) := by
  refine ⟨h.os, h.tape, h.output, by simpa [Go.ChangeMaps.setBlock] using h.size, fun k hk hn => ?_⟩
  rw [← h.block k hk hn]
  have : k ≠ r := by omega
  simp [Go.ChangeMaps.setBlock, Array.getElem?_setIfInBounds, Ne.symm this]
/-- The map as it stands while it is gone through. -/
def MIs (w : World) (M F born clk : Nat) : Prop := w.heap[M]? = some (.map #[⟨.string nm, .pointer (some ⟨F, 0, none⟩), born⟩] clk)
def ItAt (w : World) (r M clk : Nat) (seen : Array Nat) : Prop := w.heap[r]? = some (.mapIter (some M) clk seen clk)
theorem range_one {w : World} {M F born clk : Nat} (hm : MIs w M F born clk) : ∃ w1 : World, (Instr.range 55 (.map (some M))).run Try.prog w = .ok (.pointer (some ⟨w.heap.size, 0, none⟩)) w1 ∧ MIs w1 M F born clk ∧ ItAt w1 w.heap.size M clk #[] ∧ Chg (fun _ => False) w w1 :=
  ⟨_, run_range_map w 55 9 64 M _ clk Try.underlying55 hm, (heap_alloc_old w _ (heap_lt hm)).trans hm, heap_alloc_new w _, (Chg.refl _ w).alloc _⟩
theorem next_one {w0 w : World} {M F born clk r : Nat} (hC : Chg (fun _ => False) w0 w) (hr0 : w0.heap.size ≤ r) (hm : MIs w M F born clk) (hbc : born < clk) (hr : ItAt w r M clk #[]) : ∃ w1 : World, (Instr.next (.pointer (some ⟨r, 0, none⟩)) false 0).run Try.prog w = .ok (.tuple #[.bool true, .string nm, .pointer (some ⟨F, 0, none⟩)]) w1 ∧
    MIs w1 M F born clk ∧ ItAt w1 r M clk #[born] ∧ Chg (fun _ => False) w0 w1 ∧ (Instr.entry (.pointer (some ⟨r, 0, none⟩))).run Try.prog w1 = .ok (.tuple #[.string nm, .pointer (some ⟨F, 0, none⟩)]) w1 := by
  have hMr : M ≠ r := fun e => by unfold MIs at hm; unfold ItAt at hr; rw [e, hr] at hm; cases hm
  have key : ∀ w' : World, w'.heap = w.heap → Chg (fun _ => False) w0 w' → MIs (Go.ChangeMaps.setBlock w' r (.mapIter (some M) clk #[born] clk)) M F born clk ∧ ItAt (Go.ChangeMaps.setBlock w' r (.mapIter (some M) clk #[born] clk)) r M clk #[born] ∧ Chg (fun _ => False) w0 (Go.ChangeMaps.setBlock w' r (.mapIter (some M) clk #[born] clk)) := fun w' e hC' => by
    have hs := MapKept.heap_set (o' := .mapIter (some M) clk #[born] clk) (show w'.heap[r]? = some (.mapIter (some M) clk #[] clk) by rw [e]; exact hr)
    exact ⟨(hs.2 M hMr).trans (by rw [e]; exact hm), hs.1, hC'.setBlk _ _ hr0⟩
  rcases next_first hm hbc hr 0 with h | h
  · obtain ⟨k1, k2, k3⟩ := key w rfl hC
    exact ⟨_, h, k1, k2, k3, entry_first k1 k2⟩
  · obtain ⟨k1, k2, k3⟩ := key w.drew rfl ⟨hC.os, hC.tape, hC.output, hC.size, hC.block⟩
    exact ⟨_, h, k1, k2, k3, entry_first k1 k2⟩
theorem two_laid {w0 w : World} {M F born clk r : Nat} (a : Obj) (v : Value) (zs : Array Value) (t : TypeId) (hC : Chg (fun _ => False) w0 w) (hm : MIs w M F born clk) (hr : ItAt w r M clk #[born]) :
    ∀ W : World, W = ((w.alloc a).alloc (.cells (#[v] ++ zs) t)).drew → MIs W M F born clk ∧ ItAt W r M clk #[born] ∧ W.cell? ⟨w.heap.size + 1, 0, none⟩ = some v ∧ Chg (fun _ => False) w0 W := by
  rintro W rfl
  have hC1 : Chg (fun _ => False) w ((w.alloc a).alloc (.cells (#[v] ++ zs) t)).drew := by
    have := ((Chg.refl (fun _ => False) w).alloc a).alloc (.cells (#[v] ++ zs) t)
    exact ⟨this.os, this.tape, this.output, this.size, this.block⟩
  refine ⟨(hC1.block M (heap_lt hm) id).trans hm, (hC1.block r (heap_lt hr) id).trans hr, ?_, hC.trans hC1 (fun _ _ e => e) (fun _ _ e => e)⟩
  have hb : ((w.alloc a).alloc (.cells (#[v] ++ zs) t)).drew.heap[w.heap.size + 1]? = some (.cells (#[v] ++ zs) t) := (blk2 w a (.cells (#[v] ++ zs) t)).1
  unfold World.cell?
  rw [hb]
  simp [Array.getElem?_append]
set_option maxHeartbeats 1000000 in
set_option maxRecDepth 100000 in
theorem list_calls (D M F : Nat) (room size : Int) (w : World) (h : DAt w D M room size) (hM : MOne w M F) :
    Calls Try.prog 11 #[.pointer (some ⟨D, 0, none⟩)] w fun e w' => ∃ g cap, e = .returned (.slice (some ⟨g, 0, none⟩) 1 cap) ∧ w'.cell? ⟨g, 0, none⟩ = some (.string nm) ∧ Chg (fun _ => False) w w' := by
  obtain ⟨c0, c1, c2⟩ := h.cells
  obtain ⟨born, clk, hm, hbc⟩ := hM
  obtain ⟨w1, hrg, hm1, hr1, hC1⟩ := range_one hm
  obtain ⟨w2, hnx, hm2, hr2, hC2, hen⟩ := next_one hC1 (Nat.le_refl _) hm1 hbc hr1
  have hcap : Builtin.nextslicecap 1 0 = 1 := by decide
  have hby : Try.t9.bytes = 16 := rfl
  go_enter Try.func11, Try.ntmps11
  go_wp2_with (first
    | (go_at_call 30; (with_reducible refine (ok_calls D M _ c0).mono ?_); rintro e w' ⟨rfl, rfl⟩)
    | (at_range; refine wpList_range_run _ rfl (.tmp 11) 55 rfl _ _ rfl _ hrg ?_))
  refine wp_loop_rounds 2 ?_
  rw [rounds_succ]
  go_wp2_with (first
    | (at_next; refine wpList_next_run _ rfl (.tmp 12) rfl _ _ rfl _ hnx ?_))
  have hgr := two_laid (.cells #[.string nm] 9) (.string nm) (Builtin.zeroCells #[.string ⟨#[]⟩] (((Question.appendCap 1 0 9).cut (w2.tape w2.drawn (Question.appendCap 1 0 9))) - 1)) 9 hC2 hm2 hr2 _ rfl
  generalize hW : ((w2.alloc (.cells #[.string nm] 9)).alloc (.cells (#[.string nm] ++ Builtin.zeroCells #[.string ⟨#[]⟩] (((Question.appendCap 1 0 9).cut (w2.tape w2.drawn (Question.appendCap 1 0 9))) - 1)) 9)).drew = W at *
  obtain ⟨hm3, hr3, hc3, hC3⟩ := hgr
  clear hW hen hnx hrg
  have hnx2 := next_none hm3 hbc hr3 0
  rw [rounds_succ]
  go_wp2_with (first
    | (at_next; refine wpList_next_run _ rfl (.tmp 12) rfl _ _ rfl _ hnx2 ?_)
    | (go_at_call 31; (with_reducible refine (sort_one _ _ _).mono ?_); rintro e w'' ⟨rfl, ⟨nd, rfl⟩⟩))
  go_ret
  exact ⟨_, _, rfl, hc3, hC3.drewN _⟩
end Go.Proofs.Ytkdbojaoaldmbaa.D
