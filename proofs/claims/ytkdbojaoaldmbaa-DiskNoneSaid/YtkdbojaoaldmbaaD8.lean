/- Walks of the disk by hand: Crash of a disk of one file. -/
import Derived.Test.YtkdbojaoaldmbaaD5
import Derived.Test.YtkdbojaoaldmbaaD7
namespace Go.Proofs.Ytkdbojaoaldmbaa.D
open Go.RowKit Go.Proofs.Ytkdbojaoaldmbaa.Q Go.Proofs.YtkdbojaoaldmbaaW.PrintWords Go.Proofs.YtkdbojaoaldmbaaW.PrintLast Go.Proofs.YtkdbojaoaldmbaaW.PrintMore
set_option linter.unusedVariables false
set_option linter.unusedSimpArgs false

theorem DAt.chg {S : Nat → Prop} {w w' : World} {D M : Nat} {room size : Int} (h : DAt w D M room size) (hC : Chg S w w') (hn : ¬ S D) : DAt w' D M room size := (hC.block D (heap_lt h) hn).trans h
theorem FAt.chg {S : Nat → Prop} {w w' : World} {F : Nat} {A : Option Addr} {n c : Nat} {lasts : Int} (h : FAt w F A n c lasts) (hC : Chg S w w') (hn : ¬ S F) : FAt w' F A n c lasts := (hC.block F (heap_lt h) hn).trans h
theorem MOne.chg {S : Nat → Prop} {w w' : World} {M F : Nat} (h : MOne w M F) (hC : Chg S w w') (hn : ¬ S M) : MOne w' M F := by
  obtain ⟨born, clk, hm, hb⟩ := h
  exact ⟨born, clk, (hC.block M (heap_lt hm) hn).trans hm, hb⟩
set_option maxHeartbeats 1000000 in
set_option maxRecDepth 100000 in
theorem crash_calls (D M F g c : Nat) (w : World) (h : DAt w D M 100 4) (hM : MOne w M F) (hF : FAt w F (some ⟨g, 0, none⟩) 4 c 2) (hc : 4 ≤ c) :
    Calls Try.prog 17 #[.pointer (some ⟨D, 0, none⟩), .int .i64 1] w fun e w' => e = .returned (.tuple #[]) ∧ FAt w' F (some ⟨g, 0, none⟩) 3 3 3 ∧ MOne w' M F ∧ DAt w' D M 100 3 ∧ Chg (fun k => k = D ∨ k = F) w w' := by
  obtain ⟨c0, c1, c2⟩ := h.cells
  go_enter Try.func17, Try.ntmps17
  go_wp2_with (first
    | (go_at_call 30; (with_reducible refine (ok_calls D M _ c0).mono ?_); rintro e w' ⟨rfl, rfl⟩)
    | (go_at_call 11; (with_reducible refine (list_calls D M F 100 4 _ h hM).mono ?_); rintro e w1 ⟨gl, cl, rfl, hcl, hC1⟩))
  refine wp_loop_rounds 2 ?_
  rw [rounds_succ]
  have hD1 := h.chg hC1 id
  have hF1 := hF.chg hC1 id
  have hM1 := hM.chg hC1 id
  have hlk := look_one hM1
  obtain ⟨d0, d1, d2⟩ := hD1.cells
  obtain ⟨f0, f1⟩ := hF1.cells
  have rf : w1.frozen? ⟨D, 2, none⟩ = false := by unfold DAt at hD1; simp [World.frozen?, hD1]
  have qf : w1.frozen? ⟨F, 0, none⟩ = false := by unfold FAt at hF1; simp [World.frozen?, hF1]
  have qf1 : w1.frozen? ⟨F, 1, none⟩ = false := by unfold FAt at hF1; simp [World.frozen?, hF1]
  clear c0 c1 c2
  go_wp2_with (fail)
  go_quiet (fail)
  go_wp2_with (fail)
  go_region_with (fail)
  all_goals (
    have hv : IntKind.i64.wrap (4 - IntKind.i64.wrap 1) = 3 := by decide
    rw [hv]
    obtain ⟨hD2, hM2, hF2, hC2⟩ : DAt ((w1.drewN (nq + 1)).setCell ⟨D, 2, none⟩ (.int .i64 3)) D M 100 3 ∧ MOne ((w1.drewN (nq + 1)).setCell ⟨D, 2, none⟩ (.int .i64 3)) M F ∧ FAt ((w1.drewN (nq + 1)).setCell ⟨D, 2, none⟩ (.int .i64 3)) F (some ⟨g, 0, none⟩) 4 c 2 ∧ Chg (fun k => k = D) w1 ((w1.drewN (nq + 1)).setCell ⟨D, 2, none⟩ (.int .i64 3)) := by
      obtain ⟨born, clk, hm, hb⟩ := hM1
      have hC := ((Chg.refl (fun k => k = D) w1).drewN (nq + 1)).set ⟨D, 2, none⟩ (.int .i64 3) rfl
      have hDF : ¬ F = D := fun e => by unfold DAt at hD1; unfold FAt at hF1; rw [e, hD1] at hF1; simp at hF1
      have hMD : ¬ M = D := fun e => by unfold DAt at hD1; rw [e, hD1] at hm; cases hm
      exact ⟨Go.Joins.block_setCell (w := w1.drewN (nq + 1)) hD1 _, ⟨born, clk, (hC.block M (heap_lt hm) hMD).trans hm, hb⟩, (hC.block F (heap_lt hF1) hDF).trans hF1, hC⟩
    generalize (w1.drewN (nq + 1)).setCell ⟨D, 2, none⟩ (.int .i64 3) = W at *
    clear d0 d1 d2 f0 f1 rf qf qf1 hlk hF1 hM1 hD1
    obtain ⟨d0, d1, d2⟩ := hD2.cells
    obtain ⟨f0, f1⟩ := hF2.cells
    have qf : W.frozen? ⟨F, 0, none⟩ = false := by unfold FAt at hF2; simp [World.frozen?, hF2]
    have qf1 : W.frozen? ⟨F, 1, none⟩ = false := by unfold FAt at hF2; simp [World.frozen?, hF2]
    go_wp2_with (fail)
    rw [rounds_succ]
    go_wp2_with (fail)
    (first | go_end0 | ((try simp only [Exit.inBlock, Exit.then]); refine bodyPost_ret (results_none rfl _ _ _) rfl ?_))
    have hFD : F ≠ D := fun e => by unfold DAt at hD2; unfold FAt at hF2; rw [e, hD2] at hF2; simp at hF2
    obtain ⟨born, clk, hm, hb⟩ := hM2
    have hFM : M ≠ F := fun e => by unfold FAt at hF2; rw [e, hF2] at hm; cases hm
    have hC3 := ((Chg.refl (fun k => k = F) W).set ⟨F, 0, none⟩ (.slice (some ⟨g, 0, none⟩) 3 3) rfl).set ⟨F, 1, none⟩ (.int .i64 3) rfl
    have hF3 : FAt (W.setCell ⟨F, 0, none⟩ (.slice (some ⟨g, 0, none⟩) 3 3)) F (some ⟨g, 0, none⟩) 3 3 2 := Go.Joins.block_setCell hF2 _
    exact ⟨rfl, Go.Joins.block_setCell hF3 _, ⟨born, clk, (hC3.block M (heap_lt hm) hFM).trans hm, hb⟩, (hC3.block D (heap_lt hD2) hFD.symm).trans hD2, (hC1.trans hC2 (U := fun k => k = D) (fun _ _ e => e.elim) (fun _ _ e => e)).trans hC3 (fun _ _ e => .inl e) (fun _ _ e => .inr e)⟩)
end Go.Proofs.Ytkdbojaoaldmbaa.D
