/- The network by hand: the chapter's example. -/
import Derived.Test.YtlnipfmgdkiboaaN7
namespace Go.Proofs.Ytlnipfmgdkiboaa.N
open Go.RowKit Go.Proofs.Ytlnipfmgdkiboaa.Q Go.Proofs.YtlnipfmgdkiboaaW.PrintWords Go.Proofs.YtlnipfmgdkiboaaW.PrintLast Go.Proofs.YtlnipfmgdkiboaaW.PrintMore
set_option linter.unusedVariables false
set_option linter.unusedSimpArgs false

def three : List S34 := [⟨1, []⟩, ⟨2, []⟩, ⟨3, []⟩]
theorem lit3 {w : World} {g : Nat} (h : w.heap[g]? = some (.cells #[.int .i64 1, .slice none 0 0, .int .i64 2, .slice none 0 0, .int .i64 3, .slice none 0 0] 34 (0, 0))) : Kd.C k34 w (some ⟨g, 0, none⟩) three.length three := by
  refine ⟨rfl, by decide, fun _ => ⟨⟨g, 0, none⟩, rfl, fun j p hj => ⟨[.int .i64 p.f0, .slice none 0 0], rfl, ?_, fun i u hi => ?_⟩⟩⟩
  · have hp : p.f1 = [] := by
      match j, hj with
      | 0, hj => cases hj; rfl
      | 1, hj => cases hj; rfl
      | 2, hj => cases hj; rfl
    have := k34_mk w p (A1 := none) (c1 := 0) (by rw [hp]; exact Nat.le_refl _) (by rw [hp]; exact ⟨rfl, by decide, fun h => by simp at h⟩)
    rw [hp] at this
    exact this
  · have hc : ∀ q, w.cell? ⟨g, q, none⟩ = #[Value.int .i64 1, .slice none 0 0, .int .i64 2, .slice none 0 0, .int .i64 3, .slice none 0 0][q]? := blk_cell h
    rcases i with _ | _ | i
    · cases hi
      match j, hj with
      | 0, hj => cases hj; exact hc 0
      | 1, hj => cases hj; exact hc 2
      | 2, hj => cases hj; exact hc 4
    · cases hi
      match j, hj with
      | 0, hj => exact hc 1
      | 1, hj => exact hc 3
      | 2, hj => exact hc 5
    · simp at hi
def aName : ByteArray := ⟨#[97]⟩
def Q0 : ByteArray → List S34 := fun _ => []
def Q2 : ByteArray → List S34 := setQ Q0 aName [⟨1, []⟩, ⟨2, []⟩]
theorem send3 {w : World} {N M g B : Nat} (h : NetG w N M 2 B (fun _ => none) (fun _ => none) Q0) (hg : w.heap[g]? = some (.cells #[.int .i64 1, .slice none 0 0, .int .i64 2, .slice none 0 0, .int .i64 3, .slice none 0 0] 34 (0, 0))) (hgM : g ≠ M) :
    Calls Try.prog 10 #[.pointer (some ⟨N, 0, none⟩), .string ⟨#[97]⟩, .slice (some ⟨g, 0, none⟩) 3 3] w fun e w' => ∃ own' G', e = .returned (.tuple #[.int .i64 2, .int .i64 0]) ∧ NetG w' N M 2 B own' G' Q2 ∧ Chg (fun k => k = M) w w' :=
  (send_calls h aName (some ⟨g, 0, none⟩) 3 three tenant_a (fun w' hc => lit3 ((hc.block g (heap_lt hg) (fun e => by rcases e with e | e; exact hgM e; cases e)).trans hg)) (Nat.le_refl _) (by intro x hx; simp [three] at hx; rcases hx with rfl | rfl | rfl <;> decide) 2 (by decide) (by simp [Q0]) (.inr (by simp [Q0]))).mono fun e w' ⟨own', G', h1, h2, h3, _⟩ => ⟨own', G', h1, h2, h3.os, h3.tape, h3.output, h3.size, fun k hk hn => h3.block k hk (fun e => by rcases e with e | e; exact hn e; cases e), h3.five⟩
theorem double2 {w : World} {N M B : Nat} {own : Nat → Option ByteArray} {G : ByteArray → Option Value} (h : NetG w N M 2 B own G Q2) :
    Calls Try.prog 13 #[.pointer (some ⟨N, 0, none⟩), .string ⟨#[97]⟩, .int .i64 0] w fun e w' => e = .returned (.int .i64 5) ∧ Below w.heap.size w w' :=
  double_full h aName 0 (by decide) (by decide +kernel) (by decide +kernel)
theorem take2 {w : World} {N M B : Nat} {own : Nat → Option ByteArray} {G : ByteArray → Option Value} (h : NetG w N M 2 B own G Q2) :
    Calls Try.prog 11 #[.pointer (some ⟨N, 0, none⟩), .string ⟨#[97]⟩, .int .i64 0] w fun e w' => ∃ own' G' A1 c1, e = .returned (.tuple #[.agg #[.int .i64 1, .slice A1 0 c1], .int .i64 0]) ∧ NetG w' N M 2 B own' G' (setQ Q2 aName [⟨2, []⟩]) ∧ Chg (fun k => k = M ∨ own k = some aName) w w' :=
  (take_calls h aName 0 (by decide +kernel) ⟨1, []⟩ (by rfl)).mono fun e w' ⟨own', G', A1, c1, h1, h2, h3, _⟩ => ⟨own', G', A1, c1, h1, h2, h3⟩
theorem len1 {w : World} {N M B : Nat} {own : Nat → Option ByteArray} {G : ByteArray → Option Value} (h : NetG w N M 2 B own G (setQ Q2 aName [⟨2, []⟩])) :
    Calls Try.prog 15 #[.pointer (some ⟨N, 0, none⟩), .string ⟨#[97]⟩] w fun e w' => e = .returned (.int .i64 1) ∧ w' = w :=
  len_calls h aName
set_option maxHeartbeats 1000000 in
set_option maxRecDepth 100000 in
theorem live_calls (w : World) : Calls Try.prog 8 #[] w fun e w' => e = .returned (.bool true) ∧ Below w.heap.size w w' := by
  go_enter Try.func8, Try.ntmps8
  go_wp2_with (first
    | (go_at_call 7; (with_reducible refine (new_calls 2 _ (by decide) (by decide)).mono ?_); rintro e w1 ⟨N, M, rfl, hN1, hb1, hNl, hMl⟩; have HN1 := Aside0.mk hN1; have HB1 := Aside0.mk hb1; have HNl := Aside0.mk hNl; have HMl := Aside0.mk hMl; clear hN1 hb1 hNl hMl)
    | (go_at_call 10; (with_reducible refine (send3 (HN1.out.below (below_alloc (Below.refl _ _) _)) (blk_new w1 _) (fun e => by have := HMl.out; omega)).mono ?_); rintro e w2 ⟨own2, G2, rfl, hN2, hc2⟩; have HN2 := Aside0.mk hN2; have HC2 := Aside0.mk hc2; clear hN2 hc2)
    | (go_at_call 13; (with_reducible refine (double2 HN2.out).mono ?_); rintro e w3 ⟨rfl, hb3⟩; have HB3 := Aside0.mk hb3; have HN3 := Aside0.mk (HN2.out.below hb3); clear hb3)
    | (go_at_call 11; (with_reducible refine (take2 HN3.out).mono ?_); rintro e w4 ⟨own4, G4, A4, c4, rfl, hN4, hc4⟩; have HN4 := Aside0.mk hN4; have HC4 := Aside0.mk hc4; clear hN4 hc4)
    | (go_at_call 15; (with_reducible refine (len1 (HN4.out.below (below_alloc (Below.refl _ _) _))).mono ?_); rintro e w5 ⟨rfl, rfl⟩))
  go_ret
  have b1 : Below w.heap.size w (w1.alloc (.cells #[.int .i64 1, .slice none 0 0, .int .i64 2, .slice none 0 0, .int .i64 3, .slice none 0 0] 34)) := below_alloc HB1.out _
  have b2 := HC2.out.onto b1 (Nat.le_refl _) (fun k e => by rw [e]; exact HN2.out.baseM)
  have b3 := below_step b2 HB3.out
  have b4 := HC4.out.onto b3 (Nat.le_refl _) (fun k e => by
    rcases e with e | e
    · rw [e]; exact HN2.out.baseM
    · exact (HN2.out.lt k _ e).1)
  exact ⟨rfl, below_alloc b4 _⟩
end Go.Proofs.Ytlnipfmgdkiboaa.N
