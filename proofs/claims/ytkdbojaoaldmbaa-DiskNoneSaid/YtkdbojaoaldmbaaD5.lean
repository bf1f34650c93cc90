/- Walks of the disk by hand: Append to a file that is there. -/
import Derived.Test.YtkdbojaoaldmbaaD4
namespace Go.Proofs.Ytkdbojaoaldmbaa.D
open Go.RowKit Go.Proofs.Ytkdbojaoaldmbaa.Q Go.Proofs.YtkdbojaoaldmbaaW.PrintWords Go.Proofs.YtkdbojaoaldmbaaW.PrintLast Go.Proofs.YtkdbojaoaldmbaaW.PrintMore
set_option linter.unusedVariables false
set_option linter.unusedSimpArgs false

theorem cp_le4 (t : Nat) (o : Nat) : 4 ≤ (Question.appendCap 4 o 5).cut t := Nat.le_add_right _ _
set_option maxHeartbeats 1000000 in
set_option maxRecDepth 100000 in
theorem append_more (D M F G g : Nat) (c c1 : Nat) (a b x y lasts : Int) (w : World) (h : DAt w D M 100 2) (hM : MOne w M F) (hF : FAt w F (some ⟨g, 0, none⟩) 2 c1 lasts) (hg : RowAt w (some ⟨g, 0, none⟩) c1 [a, b]) (hx : RowAt w (some ⟨G, 0, none⟩) c [x, y]) :
    Calls Try.prog 20 #[.pointer (some ⟨D, 0, none⟩), .string nm, .slice (some ⟨G, 0, none⟩) 2 c] w fun e w' => e = .returned (.int .i64 0) ∧
      ∃ A1 c2, FAt w' F A1 4 c2 lasts ∧ MOne w' M F ∧ DAt w' D M 100 4 ∧ RowAt w' A1 c2 [a, b, x, y] ∧ Chg (fun k => k = D ∨ k = F) w w' := by
  obtain ⟨c0, c1', c2'⟩ := h.cells
  have hM0 := hM
  obtain ⟨born, clk, hm, hbc⟩ := hM
  have hlk : ∀ nd, (Instr.lookup 55 (.map (some M)) (.string nm) false).run Try.prog (w.drewN nd) = .ok (.pointer (some ⟨F, 0, none⟩)) (w.drewN nd) := fun nd => look_one (w := w.drewN nd) hM0
  have hln : ∀ nd, (Builtin.len_ #[55] 3 #[.map (some M)]).run Try.prog (w.drewN nd) = .ok (.int .i64 (1 : Nat)) (w.drewN nd) := fun nd => map_len (w := w.drewN nd) hm rfl
  go_enter Try.func20, Try.ntmps20
  go_wp2_with (first
    | (go_at_call 30; (with_reducible refine (ok_calls D M _ c0).mono ?_); rintro e w' ⟨rfl, rfl⟩)
    | (go_at_call 34; (with_reducible refine (disk_title.calls 10 nm true _ title_nm).mono ?_); rintro e w' ⟨rfl, ⟨nd, rfl⟩⟩))
  go_quiet (fail)
  go_wp2_with (fail)
  have hC0 : Chg (fun _ => False) w' (w'.drewN (nd + nq)) := (Chg.refl _ _).drewN _
  replace h : DAt (w'.drewN (nd + nq)) D M 100 2 := h
  replace hM0 : MOne (w'.drewN (nd + nq)) M F := hM0
  replace hF : FAt (w'.drewN (nd + nq)) F (some ⟨g, 0, none⟩) 2 c1 lasts := hF
  replace hg : RowAt (w'.drewN (nd + nq)) (some ⟨g, 0, none⟩) c1 [a, b] := hg
  replace hx : RowAt (w'.drewN (nd + nq)) (some ⟨G, 0, none⟩) c [x, y] := hx
  clear hlk hln c0 c1' c2' hm
  generalize w'.drewN (nd + nq) = w2 at *
  obtain ⟨x0, x1⟩ := two_cells hx
  obtain ⟨y0, y1⟩ := two_cells hg
  obtain ⟨q1, q2⟩ := hF.cells
  have qf : w2.frozen? ⟨F, 0, none⟩ = false := by unfold FAt at hF; simp [World.frozen?, hF]
  have hcap : Builtin.nextslicecap 4 2 = 4 := by decide
  have hby : Try.t5.bytes = 1 := rfl
  have hc1 : 2 ≤ c1 := hg.1
  have hFne : F ≠ w2.heap.size := fun e => by have := heap_lt hF; omega
  have hFlt := heap_lt hF
  go_region_with (fail)
  all_goals (
    have hgr := grown [a, b, x, y] (Builtin.zeroCells #[.int .u8 0] (((Question.appendCap 4 2 5).cut (w2.tape (w2.drawn + 1) (Question.appendCap 4 2 5))) - 4)) (cp_le4 (w2.tape (w2.drawn + 1) (Question.appendCap 4 2 5)) 2) (by simp) h hM0 hF _ rfl
    have hE : (#[Value.int IntKind.u8 a, Value.int IntKind.u8 b] ++ (#[Value.int IntKind.u8 x, Value.int IntKind.u8 y] ++ Builtin.zeroCells #[Value.int IntKind.u8 0] (((Question.appendCap 4 2 5).cut (w2.tape (w2.drawn + 1) (Question.appendCap 4 2 5))) - 4)) : Array Value) = (u8s [a, b, x, y]).toArray ++ Builtin.zeroCells #[.int .u8 0] (((Question.appendCap 4 2 5).cut (w2.tape (w2.drawn + 1) (Question.appendCap 4 2 5))) - 4) := by rw [← Array.append_assoc]; rfl
    rw [hE]
    generalize hW : (((w2.setCell ⟨F, 0, none⟩ (.slice (some ⟨w2.heap.size, 0, none⟩) 4 ((Question.appendCap 4 2 5).cut (w2.tape (w2.drawn + 1) (Question.appendCap 4 2 5))))).alloc (.cells ((u8s [a, b, x, y]).toArray ++ Builtin.zeroCells #[.int .u8 0] (((Question.appendCap 4 2 5).cut (w2.tape (w2.drawn + 1) (Question.appendCap 4 2 5))) - 4)) 5)).drew.drew) = W
    obtain ⟨hD4, hM4, hF4, hR4, hC4⟩ := (show DAt W D M 100 2 ∧ MOne W M F ∧ FAt W F (some ⟨w2.heap.size, 0, none⟩) 4 ((Question.appendCap 4 2 5).cut (w2.tape (w2.drawn + 1) (Question.appendCap 4 2 5))) lasts ∧ RowAt W (some ⟨w2.heap.size, 0, none⟩) ((Question.appendCap 4 2 5).cut (w2.tape (w2.drawn + 1) (Question.appendCap 4 2 5))) [a, b, x, y] ∧ Chg (fun k => k = F) w2 W by subst hW; exact hgr)
    clear hgr hW hE
    obtain ⟨r0, r1, r2⟩ := hD4.cells
    have rf : W.frozen? ⟨D, 2, none⟩ = false := by unfold DAt at hD4; simp [World.frozen?, hD4]
    go_wp2_with (fail)
    go_ret
    obtain ⟨hD5, hM5, hF5, hR5, hC5⟩ := stored 4 hD4 hM4 hF4 hR4
    refine ⟨rfl, _, _, hF5, hM5, hD5, hR5, (hC0.trans (T := fun k => k = F) (U := fun k => k = F) hC4 (fun _ _ e => e.elim) (fun _ _ e => e)).trans hC5 (fun _ _ e => .inr e) (fun _ _ e => .inl e)⟩)
end Go.Proofs.Ytkdbojaoaldmbaa.D
