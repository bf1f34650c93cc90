/- Walks of the disk by hand: the chapter's example. -/
import Derived.Test.YtkdbojaoaldmbaaD9
namespace Go.Proofs.Ytkdbojaoaldmbaa.D
open Go.RowKit Go.Proofs.Ytkdbojaoaldmbaa.Q Go.Proofs.YtkdbojaoaldmbaaW.PrintWords Go.Proofs.YtkdbojaoaldmbaaW.PrintLast Go.Proofs.YtkdbojaoaldmbaaW.PrintMore
set_option linter.unusedVariables false
set_option linter.unusedSimpArgs false

theorem Chg.onto {S : Nat → Prop} {w w' w'' : World} {B : Nat} (hb : Below B w w') (hB : B ≤ w.heap.size) (hc : Chg S w' w'') (hS : ∀ k, S k → B ≤ k) : Below B w w'' := by
  obtain ⟨h1, h2, h3, h4, h5⟩ := hb
  exact ⟨hc.os.trans h1, hc.tape.trans h2, hc.output.trans h3, Nat.le_trans h4 hc.size, fun k hk => (hc.block k (Nat.lt_of_lt_of_le hk (Nat.le_trans hB h4)) (fun hs => by have := hS k hs; omega)).trans (h5 k hk)⟩
theorem MNil.chg {S : Nat → Prop} {w w' : World} {M : Nat} (h : MNil w M) (hC : Chg S w w') (hn : ¬ S M) : MNil w' M := by
  obtain ⟨clk, hm⟩ := h
  exact ⟨clk, (hC.block M (heap_lt hm) hn).trans hm⟩
theorem alloc_chg (w : World) (o : Obj) : Chg (fun _ => False) w (w.alloc o) := (Chg.refl _ w).alloc o
theorem lit_row (w : World) (x y : Int) (fz : Nat × Nat) : RowAt (w.alloc (.cells #[.int .u8 x, .int .u8 y] 5 fz)) (some ⟨w.heap.size, 0, none⟩) 2 [x, y] :=
  ⟨Nat.le_refl _, (show (2 : Nat) ≤ 100000 by decide), .inr ⟨w.heap.size, #[.int .u8 x, .int .u8 y], fz, rfl, heap_alloc_new w _, rfl⟩⟩
theorem RowAt.addr {w : World} {A : Option Addr} {c : Nat} {x : Int} {xs : List Int} (h : RowAt w A c (x :: xs)) : ∃ g, A = some ⟨g, 0, none⟩ := by
  rcases h.2.2 with ⟨_, e, _⟩ | ⟨g, _, _, e, _⟩
  · cases e
  · exact ⟨g, e⟩
theorem RowAt.chgD {w w' : World} {A : Option Addr} {c : Nat} {xs : List Int} {S : Nat → Prop} {D M F : Nat} {room size : Int} {B : Option Addr} {n cb : Nat} {lasts : Int} (h : RowAt w A c xs) (hc : Chg S w w') (hD : DAt w D M room size) (hF : FAt w F B n cb lasts) (hS : ∀ k, S k → k = D ∨ k = F) : RowAt w' A c xs :=
  h.chg hc fun k hk cur fz hb => by
    rcases hS k hk with rfl | rfl
    · unfold DAt at hD; rw [hD] at hb; cases hb
    · unfold FAt at hF; rw [hF] at hb; cases hb
theorem RowAt.le4 {w : World} {A : Option Addr} {c : Nat} {x y z u : Int} (h : RowAt w A c [x, y, z, u]) : 4 ≤ c := h.1
theorem RowAt.first3 {w : World} {A : Option Addr} {c : Nat} {x y z u : Int} (h : RowAt w A c [x, y, z, u]) : RowAt w A 3 [x, y, z] := by
  refine ⟨Nat.le_refl _, (show (3 : Nat) ≤ 100000 by decide), ?_⟩
  rcases h.2.2 with ⟨_, e, _⟩ | ⟨g, cur, fz, e, hb, ht⟩
  · cases e
  · refine .inr ⟨g, cur, fz, e, hb, ?_⟩
    have := congrArg (List.take 3) ht
    rwa [List.take_take] at this
theorem append_new' (D M G : Nat) (c : Nat) (x y : Int) (w : World) (h : DAt w D M 100 0) (hM : MNil w M) (hx : RowAt w (some ⟨G, 0, none⟩) c [x, y]) :
    Calls Try.prog 20 #[.pointer (some ⟨D, 0, none⟩), .string ⟨#[102]⟩, .slice (some ⟨G, 0, none⟩) 2 c] w fun e w' => e = .returned (.int .i64 0) ∧
      ∃ F g c1, w.heap.size ≤ F ∧ FAt w' F (some ⟨g, 0, none⟩) 2 c1 0 ∧ MOne w' M F ∧ DAt w' D M 100 2 ∧ RowAt w' (some ⟨g, 0, none⟩) c1 [x, y] ∧ Chg (fun k => k = D ∨ k = M) w w' :=
  (append_new D M G c x y w h hM hx).mono fun e w' ⟨e1, F, A1, c1, h1, h2, h3, h4, h5, h6⟩ => by
    obtain ⟨g, rfl⟩ := h5.addr
    exact ⟨e1, F, g, c1, h1, h2, h3, h4, h5, h6⟩
theorem append_more' (D M F G g : Nat) (c c1 : Nat) (a b x y lasts : Int) (w : World) (h : DAt w D M 100 2) (hM : MOne w M F) (hF : FAt w F (some ⟨g, 0, none⟩) 2 c1 lasts) (hg : RowAt w (some ⟨g, 0, none⟩) c1 [a, b]) (hx : RowAt w (some ⟨G, 0, none⟩) c [x, y]) :
    Calls Try.prog 20 #[.pointer (some ⟨D, 0, none⟩), .string ⟨#[102]⟩, .slice (some ⟨G, 0, none⟩) 2 c] w fun e w' => e = .returned (.int .i64 0) ∧
      ∃ g1 c2, FAt w' F (some ⟨g1, 0, none⟩) 4 c2 lasts ∧ MOne w' M F ∧ DAt w' D M 100 4 ∧ RowAt w' (some ⟨g1, 0, none⟩) c2 [a, b, x, y] ∧ Chg (fun k => k = D ∨ k = F) w w' :=
  (append_more D M F G g c c1 a b x y lasts w h hM hF hg hx).mono fun e w' ⟨e1, A1, c2, h2, h3, h4, h5, h6⟩ => by
    obtain ⟨g, rfl⟩ := h5.addr
    exact ⟨e1, g, c2, h2, h3, h4, h5, h6⟩
theorem sync_calls' (D M F : Nat) (room size : Int) (A : Option Addr) (n c : Nat) (lasts : Int) (w : World) (h : DAt w D M room size) (hM : MOne w M F) (hF : FAt w F A n c lasts) :
    Calls Try.prog 21 #[.pointer (some ⟨D, 0, none⟩), .string ⟨#[102]⟩] w fun e w' => e = .returned (.int .i64 0) ∧ FAt w' F A n c n ∧ Chg (fun k => k = F) w w' := sync_calls D M F room size A n c lasts w h hM hF
theorem read_calls' (D M F g c : Nat) (room size lasts : Int) (x y z : Int) (w : World) (h : DAt w D M room size) (hM : MOne w M F) (hF : FAt w F (some ⟨g, 0, none⟩) 3 c lasts) (hR : RowAt w (some ⟨g, 0, none⟩) c [x, y, z]) :
    Calls Try.prog 13 #[.pointer (some ⟨D, 0, none⟩), .string ⟨#[102]⟩] w fun e w' => ∃ g' c', e = .returned (.tuple #[.slice (some ⟨g', 0, none⟩) 3 c', .int .i64 0]) ∧ w'.cell? ⟨g', 0, none⟩ = some (.int .u8 x) ∧ w'.cell? ⟨g', 1, none⟩ = some (.int .u8 y) ∧ w'.cell? ⟨g', 2, none⟩ = some (.int .u8 z) ∧ Chg (fun _ => False) w w' := read_calls D M F g c room size lasts x y z w h hM hF hR
theorem conv3 {w : World} {g : Nat} (c : Nat) (x0 : w.cell? ⟨g, 0, none⟩ = some (.int .u8 97)) (x1 : w.cell? ⟨g, 1, none⟩ = some (.int .u8 98)) (x2 : w.cell? ⟨g, 2, none⟩ = some (.int .u8 99)) :
    (convert 29 9 (.slice (some ⟨g, 0, none⟩) 3 c)).run Try.prog w = .ok (.string ⟨#[97, 98, 99]⟩) w :=
  run_convert_bytes_arg w 29 5 Try.underlying29 Try.underlying5 g 0 3 c [97, 98, 99] rfl (fun i hi => by
    match i, hi with
    | 0, _ => exact x0
    | 1, _ => exact x1
    | 2, _ => exact x2) 9 Try.underlying9
set_option maxHeartbeats 1000000 in
set_option maxRecDepth 100000 in
theorem live_calls (w : World) : Calls Try.prog 9 #[] w fun e w' => e = .returned (.bool true) ∧ Below w.heap.size w w' := by
  have kc := fun (w : World) (C : Array Value) (n c g : Nat) (hg : g = w.heap.size) => Go.Joins.run_convert_bytes_const_at (P := Try.prog) w 29 5 C n c g hg Try.underlying29 Try.underlying5
  go_enter Try.func9, Try.ntmps9
  go_wp2_with (first
    | (go_at_call 8; (with_reducible refine (new_calls _).mono ?_); rintro e w1 ⟨D, M, rfl, hDge, hMge, hD1, hM1, hC1⟩)
    | (go_at_call 20; (with_reducible refine (append_new' D M _ 2 97 98 _ (hD1.chg (alloc_chg _ _) id) (hM1.chg (alloc_chg _ _) id) (lit_row _ _ _ _)).mono ?_); rintro e w2 ⟨rfl, F, g1, c1, hFge, hF2, hM2, hD2, hR2, hC2⟩)
    | (go_at_call 21; (with_reducible refine (sync_calls' D M F 100 2 _ 2 _ 0 _ hD2 hM2 hF2).mono ?_); rintro e w3 ⟨rfl, hF3, hC3⟩; have hDF : D ≠ F := (fun e => by unfold DAt at hD2; unfold FAt at hF2; rw [e, hF2] at hD2; simp at hD2); have hMF : ¬ M = F := (fun e => by obtain ⟨_, _, hm, _⟩ := hM2; unfold FAt at hF2; rw [e, hF2] at hm; cases hm); have hD3 := hD2.chg hC3 hDF; have hM3 := hM2.chg hC3 hMF; have hR3 := hR2.chgD hC3 hD2 hF2 (fun _ e => .inr e))
    | (go_at_call 20; (with_reducible refine (append_more' D M F _ g1 2 c1 97 98 99 100 2 _ (hD3.chg (alloc_chg _ _) id) (hM3.chg (alloc_chg _ _) id) (hF3.chg (alloc_chg _ _) id) (hR3.chgD (alloc_chg _ _) hD3 hF3 (fun _ e => e.elim)) (lit_row _ _ _ _)).mono ?_); rintro e w4 ⟨rfl, g4, c4, hF4, hM4, hD4, hR4, hC4⟩)
    | (go_at_call 17; (with_reducible refine (crash_calls D M F g4 c4 _ hD4 hM4 hF4 hR4.le4).mono ?_); rintro e w5 ⟨rfl, hF5, hM5, hD5, hC5⟩; have hR5 := (hR4.chgD hC5 hD4 hF4 (fun _ e => e)).first3)
    | (go_at_call 13; (with_reducible refine (read_calls' D M F g4 3 100 3 3 97 98 99 _ hD5 hM5 hF5 hR5).mono ?_); rintro e w6 ⟨g6, c6, rfl, x0, x1, x2, hC6⟩; have hcv := conv3 c6 x0 x1 x2)
    | (go_at_call 19; (with_reducible refine (size_calls D M 100 3 _ (hD5.chg hC6 id)).mono ?_); rintro e w7 ⟨rfl, rfl⟩))
  go_ret
  have b1 := hC1.onto (B := w.heap.size) (Below.refl _ _) (Nat.le_refl _) (fun _ e => e.elim)
  have b2 := (alloc_chg w1 (.cells #[.int .u8 97, .int .u8 98] 5 (2, 3))).onto b1 (Nat.le_refl _) (fun _ e => e.elim)
  have b3 := hC2.onto b2 (Nat.le_refl _) (fun k e => by rcases e with rfl | rfl <;> assumption)
  have hFge2 : w.heap.size ≤ F := Nat.le_trans b2.size hFge
  have b4 := hC3.onto b3 (Nat.le_refl _) (fun k e => by rcases e with rfl; exact hFge2)
  have b5 := (alloc_chg w3 (.cells #[.int .u8 99, .int .u8 100] 5 (2, 3))).onto b4 (Nat.le_refl _) (fun _ e => e.elim)
  have b6 := hC4.onto b5 (Nat.le_refl _) (fun k e => by rcases e with rfl | rfl <;> assumption)
  have b7 := hC5.onto b6 (Nat.le_refl _) (fun k e => by rcases e with rfl | rfl <;> assumption)
  exact ⟨rfl, hC6.onto b7 (Nat.le_refl _) (fun _ e => e.elim)⟩
end Go.Proofs.Ytkdbojaoaldmbaa.D
