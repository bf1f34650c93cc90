/- The network by hand: find. -/
import Derived.Test.YtlnipfmgdkiboaaN2
namespace Go.Proofs.Ytlnipfmgdkiboaa.N
open Go.RowKit Go.Proofs.Ytlnipfmgdkiboaa.Q Go.Proofs.YtlnipfmgdkiboaaW.PrintWords Go.Proofs.YtlnipfmgdkiboaaW.PrintLast Go.Proofs.YtlnipfmgdkiboaaW.PrintMore
set_option linter.unusedVariables false
set_option linter.unusedSimpArgs false
section
variable {w : World} {N M : Nat} {room : Int} {B : Nat} {own : Nat → Option ByteArray} {G : ByteArray → Option Value} {Q : ByteArray → List S34}
set_option maxHeartbeats 1000000 in
set_option maxRecDepth 100000 in
theorem find_out (h : NetG w N M room B own G Q) (s : ByteArray) (i : Int) (hi : ¬(0 ≤ i ∧ i < (Q s).length)) :
    Calls Try.prog 28 #[.pointer (some ⟨N, 0, none⟩), .string s, .int .i64 i] w fun e w' => e = .returned (.tuple #[.agg #[.int .i64 0, .slice none 0 0], .int .i64 4]) ∧ Below w.heap.size w w' := by
  obtain ⟨c0, c1⟩ := h.cell
  have c1a := fun o => Go.Lib.cell?_alloc_some (W := w) o c1
  have hal : ∀ o, (Instr.lookup 60 (.map (some M)) (.string s) false).run Try.prog (w.alloc o) = .ok ((G s).getD (.slice none 0 0)) (w.alloc o) := fun o => (h.below (below_alloc (Below.refl _ _) o)).look s
  obtain ⟨A, c, hv, hc, _⟩ := Kd.R_reads (h.rows s)
  rw [hv] at hal
  have hcond : i < 0 ∨ (¬ i < 0 ∧ i ≥ ((Q s).length : Int)) := by omega
  clear hi
  generalize (Q s).length = n at *
  rcases hcond with hi | ⟨hi, hi2⟩
  · go_enter Try.func28, Try.ntmps28
    go_wp2_with (go_at_call 25; (with_reducible refine (ok_calls N M _ (c1a _)).mono ?_); rintro e w' ⟨rfl, rfl⟩)
    refine bodyPost_ret (results_ct rfl _ _ w.heap.size 34 #[.int .i64 0, .slice none 0 0] (0, 0) _ rfl (blk_new w _) Try.underlying34 rfl (by kernel_rfl)) rfl ?_
    exact ⟨rfl, below_alloc (Below.refl _ _) _⟩
  · go_enter Try.func28, Try.ntmps28
    go_wp2_with (go_at_call 25; (with_reducible refine (ok_calls N M _ (c1a _)).mono ?_); rintro e w' ⟨rfl, rfl⟩)
    refine bodyPost_ret (results_ct rfl _ _ w.heap.size 34 #[.int .i64 0, .slice none 0 0] (0, 0) _ rfl (blk_new w _) Try.underlying34 rfl (by kernel_rfl)) rfl ?_
    exact ⟨rfl, below_alloc (Below.refl _ _) _⟩
theorem elem_at (h : NetG w N M room B own G Q) (s : ByteArray) (i : Int) (h0 : 0 ≤ i) (h1 : i < (Q s).length) : ∃ g c A1 c1, (G s).getD (.slice none 0 0) = .slice (some ⟨g, 0, none⟩) (Q s).length c ∧
    w.cell? ⟨g, i.toNat * 2, none⟩ = some (.int .i64 ((Q s).getD i.toNat z34).f0) ∧ w.cell? ⟨g, i.toNat * 2 + 1, none⟩ = some (.slice A1 ((Q s).getD i.toNat z34).f1.length c1) ∧ k34.M w B (fun k => own k = some s) ((Q s).getD i.toNat z34) [.int .i64 ((Q s).getD i.toNat z34).f0, .slice A1 ((Q s).getD i.toNat z34).f1.length c1] ∧ g < w.heap.size ∧ own g = some s := by
  have hr := h.rows s
  obtain ⟨g, c, hv, _, hg, _⟩ := Kd.R_form hr (by omega)
  rw [hv] at hr
  obtain ⟨cs, hl, hM, hcell, _⟩ := Kd.R_elem hr z34 i h0 h1
  obtain ⟨v1, rfl, hv1⟩ := k34_openM hM
  obtain ⟨A1, c1, rfl⟩ := Kd.R_slice hv1
  refine ⟨g, c, A1, c1, hv, ?_, ?_, k34.M_mono (fun _ hk => hk.1) hM, hg, hr.1 g (by simp [Value.ownBlock])⟩
  · exact hcell 0 _ rfl
  · exact hcell 1 _ rfl
set_option maxHeartbeats 1000000 in
set_option maxRecDepth 100000 in
theorem find_in (h : NetG w N M room B own G Q) (s : ByteArray) (i : Int) (h0 : 0 ≤ i) (h1 : i < (Q s).length) :
    Calls Try.prog 28 #[.pointer (some ⟨N, 0, none⟩), .string s, .int .i64 i] w fun e w' => ∃ A1 c1, e = .returned (.tuple #[.agg #[.int .i64 ((Q s).getD i.toNat z34).f0, .slice A1 ((Q s).getD i.toNat z34).f1.length c1], .int .i64 0]) ∧ k34.M w B (fun k => own k = some s) ((Q s).getD i.toNat z34) [.int .i64 ((Q s).getD i.toNat z34).f0, .slice A1 ((Q s).getD i.toNat z34).f1.length c1] ∧ Below w.heap.size w w' := by
  obtain ⟨c0, c1⟩ := h.cell
  have c1a := fun o => Go.Lib.cell?_alloc_some (W := w) o c1
  have hal : ∀ o, (Instr.lookup 60 (.map (some M)) (.string s) false).run Try.prog (w.alloc o) = .ok ((G s).getD (.slice none 0 0)) (w.alloc o) := fun o => (h.below (below_alloc (Below.refl _ _) o)).look s
  obtain ⟨g, c, A1, c1', hv, x0, x1, hM, hg, _⟩ := elem_at h s i h0 h1
  rw [hv] at hal
  have x0a := fun o => Go.Lib.cell?_alloc_some (W := w) o x0
  have x1a := fun o => Go.Lib.cell?_alloc_some (W := w) o x1
  have HM := Aside0.mk hM
  clear hM
  generalize (Q s).getD i.toNat z34 = x at *
  have hi0 : ¬ i < 0 := by omega
  have hi1 : ¬ i ≥ ((Q s).length : Int) := by omega
  clear h1
  generalize (Q s).length = n at *
  go_enter Try.func28, Try.ntmps28
  go_wp2_with (go_at_call 25; (with_reducible refine (ok_calls N M _ (c1a _)).mono ?_); rintro e w' ⟨rfl, rfl⟩)
  refine bodyPost_ret (results_ct rfl _ _ w.heap.size 34 #[.int .i64 x.f0, .slice A1 x.f1.length c1'] (0, 0) _ rfl (blk_new w _) Try.underlying34 rfl (by kernel_rfl)) rfl ?_
  exact ⟨_, _, rfl, HM.out, below_alloc (Below.refl _ _) _⟩
end
end Go.Proofs.Ytlnipfmgdkiboaa.N
