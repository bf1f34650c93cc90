/- Walks of the disk by hand: Append. -/
import Derived.Test.YtkdbojaoaldmbaaD3
import Derived.Test.YtkdbojaoaldmbaaQ7
import Derived.Maps.Own
import Derived.WideMake
import Derived.Deep.RegionHeld3
namespace Go.Proofs.Ytkdbojaoaldmbaa.D
open Go.RowKit Go.Proofs.Ytkdbojaoaldmbaa.Q Go.Proofs.YtkdbojaoaldmbaaW.PrintWords Go.Proofs.YtkdbojaoaldmbaaW.PrintLast Go.Proofs.YtkdbojaoaldmbaaW.PrintMore
set_option linter.unusedVariables false
set_option linter.unusedSimpArgs false

theorem title_nm : disk_title.f 10 nm = some true := by kernel_rfl
theorem wpList_mapUpdate_run {P : Program} (w : World) {ops : Array Oper} {rest : List Oper} {o : Oper} {a : Act} {Q : Exit → Act → World → Prop}
    (hg : o.guard = none) (m x v : Operand) (t : TypeId) (hop : o.op = Op.mapUpdate t m x v) (M K V : Value) (hm : a.eval m = M) (hx : a.eval x = K) (hv : a.eval v = V) (w1 : World)
    (hrun : (Instr.mapUpdate t M K V).run P w = .ok () w1) (hK : wpList P ops Q rest (a.put o.dst undef) w1) : wpList P ops Q (o :: rest) a w := by
  refine wpList_plain hg fun K' hK' => ?_
  unfold Oper.wp
  simp [execOp, hop, hm, hx, hv, hrun, Result.andThen]
  exact hK' _ _ hK
theorem append_event {P : Program} {ops : Array Oper} {o : Oper} {rest : List Oper} {a : Act} {Q : Exit → Act → World → Prop} {W : World} (hgd : o.guard = none) (s x : Operand) (t : TypeId)
    (ho : o.op = .call { callee := .builtin .append, args := #[s, x], argTypes := #[t, t] }) (v u : Value) (hs : a.eval s = v) (hx : a.eval x = u) (v1 : Value) (w1 : World)
    (hr1 : (Builtin.append_ #[t, t] o.type #[v, u]).run P W = .ok v1 w1) (h : wpList P ops Q rest (a.put o.dst v1) w1) : wpList P ops Q (o :: rest) a W := by
  refine wpList_plain hgd fun K hK => ?_
  unfold Oper.wp execOp
  simp only [ho, resolve, invoke, builtin, Sem.run_bind, Sem.run_pure, Result.andThen_ok, List.map_toArray, List.map_cons, List.map_nil, hs, hx, hr1]
  exact hK _ _ h
theorem append_step {P : Program} {ops : Array Oper} {o : Oper} {a : Act} {Q : Exit → Act → World → Prop} {Kc : Act → World → Prop} {W : World} (hw : Region.wanted o (yielded ops a.tmps) = true) (s x : Operand) (t : TypeId)
    (ho : o.op = .call { callee := .builtin .append, args := #[s, x], argTypes := #[t, t] }) (v u : Value) (hs : a.eval s = v) (hx : a.eval x = u) (v1 : Value) (w1 : World)
    (hr1 : (Builtin.append_ #[t, t] o.type #[v, u]).run P W = .ok v1 w1) (h : Kc (a.put o.dst v1) w1) : if Region.wanted o (yielded ops a.tmps) = true then Oper.wp P o a W Kc Q else Kc (a.put o.dst undef) W := by
  rw [if_pos hw]
  unfold Oper.wp execOp
  simp only [ho, resolve, invoke, builtin, Sem.run_bind, Sem.run_pure, Result.andThen_ok, List.map_toArray, List.map_cons, List.map_nil, hs, hx, hr1]
  exact h
theorem two_cells {w : World} {g : Nat} {c : Nat} {x y : Int} (h : RowAt w (some ⟨g, 0, none⟩) c [x, y]) : w.cell? ⟨g, 0, none⟩ = some (.int .u8 x) ∧ w.cell? ⟨g, 1, none⟩ = some (.int .u8 y) := by
  rcases h.2.2 with ⟨e, _⟩ | ⟨g', cur, fz, e, hb, ht⟩
  · cases e
  · cases e
    have h0 : cur.toList[0]? = some (.int .u8 x) := by
      have : (cur.toList.take 2)[0]? = some (.int .u8 x) := by rw [show (2 : Nat) = [x, y].length from rfl, ht]; rfl
      rwa [List.getElem?_take, if_pos (by decide)] at this
    have h1 : cur.toList[1]? = some (.int .u8 y) := by
      have : (cur.toList.take 2)[1]? = some (.int .u8 y) := by rw [show (2 : Nat) = [x, y].length from rfl, ht]; rfl
      rwa [List.getElem?_take, if_pos (by decide)] at this
    simp only [World.cell?, hb]
    exact ⟨by simpa using h0, by simpa using h1⟩
theorem map_len {w : World} {M n : Nat} {es : Array MapEntry} {clk : Nat} (h : w.heap[M]? = some (.map es clk)) (hn : es.size = n) : (Builtin.len_ #[55] 3 #[.map (some M)]).run Try.prog w = .ok (.int .i64 n) w := by
  subst hn
  simp [Builtin.len_, run_underlying Try.underlying55, MapKept.run_getObj_map h, Result.andThen, goInt]

theorem heap_lt {w : World} {k : Nat} {o : Obj} (h : w.heap[k]? = some o) : k < w.heap.size := by
  rcases Nat.lt_or_ge k w.heap.size with h1 | h1
  · exact h1
  · rw [Array.getElem?_eq_none h1] at h; cases h
theorem Chg.of_below {w w' : World} {B : Nat} (S : Nat → Prop) (h : Below B w w') (hB : w.heap.size ≤ B) : Chg S w w' := ⟨h.os, h.tape, h.output, h.size, fun k hk _ => h.block k (by omega)⟩
/-- What putting the first file into the map leaves. -/
theorem map_first {w : World} {D M F clk : Nat} {room size : Int} {A : Option Addr} {n c : Nat} {lasts : Int} (hm : w.heap[M]? = some (.map #[] clk)) (hD : DAt w D M room size) (hF : FAt w F A n c lasts) :
    ∃ w1 : World, (Instr.mapUpdate 55 (.map (some M)) (.string nm) (.pointer (some ⟨F, 0, none⟩))).run Try.prog w = .ok () w1 ∧ MOne w1 M F ∧ DAt w1 D M room size ∧ FAt w1 F A n c lasts ∧ Chg (fun k => k = M) w w1 := by
  have hs := fun o => MapKept.heap_set (o' := o) hm
  have hDM : D ≠ M := fun e => by unfold DAt at hD; rw [e, hm] at hD; cases hD
  have hFM : F ≠ M := fun e => by unfold FAt at hF; rw [e, hm] at hF; cases hF
  refine ⟨_, run_mapUpdate_first w 55 9 64 M clk nm _ Try.underlying55 Try.underlying9 hm, ⟨clk, clk + 1, (hs _).1, Nat.lt_succ_self _⟩, ((hs _).2 D hDM).trans hD, ((hs _).2 F hFM).trans hF, ⟨rfl, rfl, rfl, by simp, fun k _ hk => (hs _).2 k hk⟩⟩
theorem cp_le (t : Nat) (o : Nat) : 2 ≤ (Question.appendCap 2 o 5).cut t := Nat.le_add_right _ _
/-- What an append leaves that took a new row. -/
theorem grown {w : World} {D M F : Nat} {room size lasts : Int} {A : Option Addr} {n c cp : Nat} (ys : List Int) (zs : Array Value) (hcp : ys.length ≤ cp) (hn : ys.length ≤ 100000) (hD : DAt w D M room size) (hM : MOne w M F) (hF : FAt w F A n c lasts) :
    ∀ W : World, W = ((w.setCell ⟨F, 0, none⟩ (.slice (some ⟨w.heap.size, 0, none⟩) ys.length cp)).alloc (.cells ((u8s ys).toArray ++ zs) 5)).drew.drew →
      DAt W D M room size ∧ MOne W M F ∧ FAt W F (some ⟨w.heap.size, 0, none⟩) ys.length cp lasts ∧ RowAt W (some ⟨w.heap.size, 0, none⟩) cp ys ∧ Chg (fun k => k = F) w W := by
  rintro W rfl
  obtain ⟨born, clk, hm, hbc⟩ := hM
  have hDl := heap_lt hD
  have hFl := heap_lt hF
  have hMl := heap_lt hm
  have hDF : D ≠ F := fun e => by unfold DAt at hD; unfold FAt at hF; rw [e, hF] at hD; simp at hD
  have hMF : M ≠ F := fun e => by unfold FAt at hF; rw [e, hF] at hm; cases hm
  have hC : Chg (fun k => k = F) w ((w.setCell ⟨F, 0, none⟩ (.slice (some ⟨w.heap.size, 0, none⟩) ys.length cp)).alloc (.cells ((u8s ys).toArray ++ zs) 5)) := ((Chg.refl (fun k => k = F) w).set ⟨F, 0, none⟩ _ rfl).alloc _
  have hC2 : Chg (fun k => k = F) w ((w.setCell ⟨F, 0, none⟩ (.slice (some ⟨w.heap.size, 0, none⟩) ys.length cp)).alloc (.cells ((u8s ys).toArray ++ zs) 5)).drew.drew := ⟨hC.os, hC.tape, hC.output, hC.size, hC.block⟩
  refine ⟨(hC2.block D hDl hDF).trans hD, ⟨born, clk, (hC2.block M hMl hMF).trans hm, hbc⟩, ?_, ⟨hcp, hn, .inr ⟨w.heap.size, (u8s ys).toArray ++ zs, (0, 0), rfl, ?_, ?_⟩⟩, hC2⟩
  · have h1 : (w.setCell ⟨F, 0, none⟩ (.slice (some ⟨w.heap.size, 0, none⟩) ys.length cp)).heap[F]? = some (.cells #[.slice (some ⟨w.heap.size, 0, none⟩) ys.length cp, .int .i64 lasts] 68 (0, 0)) := Go.Joins.block_setCell hF _
    show ((w.setCell ⟨F, 0, none⟩ (.slice (some ⟨w.heap.size, 0, none⟩) ys.length cp)).heap.push _)[F]? = _
    rw [Array.getElem?_push, if_neg (by simp [World.setCell]; omega), h1]
  · show ((w.setCell ⟨F, 0, none⟩ (.slice (some ⟨w.heap.size, 0, none⟩) ys.length cp)).heap.push _)[w.heap.size]? = _
    rw [Array.getElem?_push, if_pos (by simp [World.setCell])]
  · simp [u8s_len]
/-- What stands when the size was set. -/
theorem stored {W : World} {D M F : Nat} {room s lasts : Int} {A R : Option Addr} {n c c' : Nat} {xs : List Int} (t : Int) (hD : DAt W D M room s) (hM : MOne W M F) (hF : FAt W F A n c lasts) (hR : RowAt W R c' xs) :
    DAt (W.setCell ⟨D, 2, none⟩ (.int .i64 t)) D M room t ∧ MOne (W.setCell ⟨D, 2, none⟩ (.int .i64 t)) M F ∧ FAt (W.setCell ⟨D, 2, none⟩ (.int .i64 t)) F A n c lasts ∧ RowAt (W.setCell ⟨D, 2, none⟩ (.int .i64 t)) R c' xs ∧ Chg (fun k => k = D) W (W.setCell ⟨D, 2, none⟩ (.int .i64 t)) := by
  obtain ⟨born, clk, hm, hbc⟩ := hM
  have hDF : F ≠ D := fun e => by unfold DAt at hD; unfold FAt at hF; rw [e, hD] at hF; simp at hF
  have hMD : M ≠ D := fun e => by unfold DAt at hD; rw [e, hD] at hm; cases hm
  have hC : Chg (fun k => k = D) W (W.setCell ⟨D, 2, none⟩ (.int .i64 t)) := (Chg.refl _ W).set _ _ rfl
  refine ⟨Go.Joins.block_setCell hD _, ⟨born, clk, (hC.block M (heap_lt hm) hMD).trans hm, hbc⟩, (hC.block F (heap_lt hF) hDF).trans hF, hR.chg hC ?_, hC⟩
  rintro k rfl cur fz hb
  unfold DAt at hD
  rw [hD] at hb
  cases hb
set_option maxHeartbeats 1000000 in
set_option maxRecDepth 100000 in
theorem append_new (D M G : Nat) (c : Nat) (x y : Int) (w : World) (h : DAt w D M 100 0) (hM : MNil w M) (hx : RowAt w (some ⟨G, 0, none⟩) c [x, y]) :
    Calls Try.prog 20 #[.pointer (some ⟨D, 0, none⟩), .string nm, .slice (some ⟨G, 0, none⟩) 2 c] w fun e w' => e = .returned (.int .i64 0) ∧
      ∃ F A1 c1, w.heap.size ≤ F ∧ FAt w' F A1 2 c1 0 ∧ MOne w' M F ∧ DAt w' D M 100 2 ∧ RowAt w' A1 c1 [x, y] ∧ Chg (fun k => k = D ∨ k = M) w w' := by
  obtain ⟨c0, c1, c2⟩ := h.cells
  have hM0 := hM
  obtain ⟨clk, hm⟩ := hM
  have hlk : ∀ nd, (Instr.lookup 55 (.map (some M)) (.string nm) false).run Try.prog (w.drewN nd) = .ok (.pointer none) (w.drewN nd) := fun nd => look_nil (w := w.drewN nd) hM0
  have hln : ∀ nd, (Builtin.len_ #[55] 3 #[.map (some M)]).run Try.prog (w.drewN nd) = .ok (.int .i64 (0 : Nat)) (w.drewN nd) := fun nd => map_len (w := w.drewN nd) hm rfl
  go_enter Try.func20, Try.ntmps20
  go_wp2_with (first
    | (go_at_call 30; (with_reducible refine (ok_calls D M _ c0).mono ?_); rintro e w' ⟨rfl, rfl⟩)
    | (go_at_call 34; (with_reducible refine (disk_title.calls 10 nm true _ title_nm).mono ?_); rintro e w' ⟨rfl, ⟨nd, rfl⟩⟩))
  go_quiet (fail)
  go_wp2_with (first
    | ((with_reducible refine gate_dst (N := 45) rfl ?_); (try (refine gate_guard (by rfl) ?_; dsimp only)); refine box_event ?hg (N := 45) ?hd (cs := #[.slice none 0 0, .int .i64 0]) (t := 68) ?hr ?_; (case hd => rfl); (case hg => rfl); (case hr => first | (go_simp; done) | (go_simp; rfl)); intro F hg w1 hbox hb; have hFge := Aside0.mk (Nat.le_of_eq hg.symm); clear hg; have hD1 : DAt w1 D M 100 0 := (hb.block D (heap_lt h)).trans h; have hM1 : w1.heap[M]? = some (.map #[] clk) := (hb.block M (heap_lt hm)).trans hm; have hF1 : FAt w1 F none 0 0 0 := hbox; obtain ⟨w2, hrun2, hM2, hD2, hF2, hC2⟩ := map_first hM1 hD1 hF1; have q0 := hD1.cells.1; have HC1 := Aside0.mk (Chg.of_below (fun k => k = D ∨ k = M) hb (Nat.le_refl _)); clear hb hbox)
    | (at_mapUpdate; refine wpList_mapUpdate_run _ rfl (.tmp 49) (.tmp 50) (.tmp 51) 55 rfl _ _ _ rfl rfl rfl _ hrun2 ?_))
  have hCw2 : Chg (fun k => k = D ∨ k = M) _ w2 := HC1.out.trans hC2 (fun k _ h => h) (fun k _ h => .inr h)
  have hx2 : RowAt w2 (some ⟨G, 0, none⟩) c [x, y] := (show RowAt (w'.drewN (nd + nq)) (some ⟨G, 0, none⟩) c [x, y] from hx).chg hCw2 (fun k hk cur fz hb => by
    rcases hk with rfl | rfl
    · have hb' : some _ = some _ := (show (w'.drewN (nd + nq)).heap[k]? = _ from h).symm.trans hb; cases hb'
    · have hb' : some _ = some _ := (show (w'.drewN (nd + nq)).heap[k]? = _ from hm).symm.trans hb; cases hb')
  obtain ⟨x0, x1⟩ := two_cells hx2
  obtain ⟨q1, q2⟩ := hF2.cells
  have qf : w2.frozen? ⟨F, 0, none⟩ = false := by unfold FAt at hF2; simp [World.frozen?, hF2]
  have hcap : Builtin.nextslicecap 2 0 = 2 := by decide
  have hby : Try.t5.bytes = 1 := rfl
  have hFne : F ≠ w2.heap.size := fun e => by have := heap_lt hF2; omega
  have hFlt := heap_lt hF2
  go_region_with (fail)
  all_goals (
    have hgr := grown [x, y] (Builtin.zeroCells #[.int .u8 0] ((Question.appendCap 2 0 5).cut (w2.tape (w2.drawn + 1) (Question.appendCap 2 0 5)) - 2)) (cp_le (w2.tape (w2.drawn + 1) (Question.appendCap 2 0 5)) 0) (by simp) hD2 hM2 hF2 _ rfl
    generalize hW : (((w2.setCell ⟨F, 0, none⟩ (.slice (some ⟨w2.heap.size, 0, none⟩) 2 ((Question.appendCap 2 0 5).cut (w2.tape (w2.drawn + 1) (Question.appendCap 2 0 5))))).alloc (.cells (#[.int .u8 x, .int .u8 y] ++ Builtin.zeroCells #[.int .u8 0] ((Question.appendCap 2 0 5).cut (w2.tape (w2.drawn + 1) (Question.appendCap 2 0 5)) - 2)) 5)).drew.drew) = W
    obtain ⟨hD4, hM4, hF4, hR4, hC4⟩ := (show DAt W D M 100 0 ∧ MOne W M F ∧ FAt W F (some ⟨w2.heap.size, 0, none⟩) 2 ((Question.appendCap 2 0 5).cut (w2.tape (w2.drawn + 1) (Question.appendCap 2 0 5))) 0 ∧ RowAt W (some ⟨w2.heap.size, 0, none⟩) ((Question.appendCap 2 0 5).cut (w2.tape (w2.drawn + 1) (Question.appendCap 2 0 5))) [x, y] ∧ Chg (fun k => k = F) w2 W by subst hW; exact hgr)
    clear hgr hW
    obtain ⟨r0, r1, r2⟩ := hD4.cells
    have rf : W.frozen? ⟨D, 2, none⟩ = false := by unfold DAt at hD4; simp [World.frozen?, hD4]
    go_wp2_with (fail)
    go_ret
    obtain ⟨hD5, hM5, hF5, hR5, hC5⟩ := stored 2 hD4 hM4 hF4 hR4
    refine ⟨rfl, F, _, _, hFge.out, hF5, hM5, hD5, hR5, ⟨hC5.os.trans (hC4.os.trans hCw2.os), hC5.tape.trans (hC4.tape.trans hCw2.tape), hC5.output.trans (hC4.output.trans hCw2.output), Nat.le_trans hCw2.size (Nat.le_trans hC4.size hC5.size), fun k hk hn => ?_⟩⟩
    have hkF : k ≠ F := fun e => absurd hk (Nat.not_lt.2 (e ▸ hFge.out))
    have hk2 := Nat.lt_of_lt_of_le hk hCw2.size
    rw [hC5.block k (Nat.lt_of_lt_of_le hk2 hC4.size) (fun e => hn (.inl e)), hC4.block k hk2 hkF]
    exact hCw2.block k hk hn)
end Go.Proofs.Ytkdbojaoaldmbaa.D
