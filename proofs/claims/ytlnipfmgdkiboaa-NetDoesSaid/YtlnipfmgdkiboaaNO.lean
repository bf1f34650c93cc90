import Derived.Test.YtlnipfmgdkiboaaN45
/- The laws by hand: NetDoes (mkN46.py). -/
namespace Go.Proofs.Ytlnipfmgdkiboaa.N
open Go.RowKit Go.Proofs.Ytlnipfmgdkiboaa.Q Go.Proofs.YtlnipfmgdkiboaaW.PrintWords Go.Proofs.YtlnipfmgdkiboaaW.PrintLast Go.Proofs.YtlnipfmgdkiboaaW.PrintMore
set_option linter.unusedVariables false
set_option linter.unusedSimpArgs false
/-- The acts within the reach. -/
structure OkDoes (l : List S31) : Prop where
  few : l.length ≤ 140737488355328
  each : ∀ x ∈ l, x.f1.size ≤ 9223372036854775807 ∧ x.f2.length < 4398046511104 ∧ ∀ y ∈ x.f2, y.f1.length < 140737488355328
/-- One letter without bytes, as it lies. -/
theorem lit1 {W : World} {ok : Nat → Prop} {b : Nat} (h : W.heap[b]? = some (.cells #[.int .i64 9, .slice none 0 0] 34 (0, 0))) (hb : ok b) : Kd.F k34 W ok (some ⟨b, 0, none⟩) 1 [⟨9, []⟩] := fun W' hW => by
  have h' := (hW b hb (heap_lt h)).trans h
  refine ⟨rfl, by decide, fun _ => ⟨⟨b, 0, none⟩, rfl, fun j p hj => ⟨[.int .i64 p.f0, .slice none 0 0], rfl, ?_, fun i u hi => ?_⟩⟩⟩
  · have hp : p.f1 = [] := by
      match j, hj with
      | 0, hj => cases hj; rfl
    have := k34_mk W' p (A1 := none) (c1 := 0) (by rw [hp]; exact Nat.le_refl _) (by rw [hp]; exact ⟨rfl, by decide, fun h => by simp at h⟩)
    rw [hp] at this
    exact this
  · have hc : ∀ q, W'.cell? ⟨b, q, none⟩ = #[Value.int .i64 9, .slice none 0 0][q]? := blk_cell h'
    match j, hj with
    | 0, hj =>
      cases hj
      rcases i with _ | _ | i
      · cases hi; exact hc 0
      · cases hi; exact hc 1
      · simp at hi
section
variable {w W : World} {N M g : Nat} {room : Int} {own : Nat → Option ByteArray} {Qn Q : ByteArray → List S34} {n : Nat} {I : Nat → Prop}
/-- Both networks as they are made. -/
theorem Duo.made {w1 w2 w3 : World} (h1 : NetG w1 N M room w.heap.size (fun _ => none) (fun _ => none) (fun _ => [])) (hb1 : Below w.heap.size w w1) (hb2 : Below w1.heap.size w1 w2) (hg : w2.heap.size ≤ g) (hc : w3.heap[g]? = some (.cells #[.int .i64 room, .slice none 0 0] 55 (0, 0))) (hb3 : Below w2.heap.size w2 w3) :
    Duo w w3 N M room (fun _ => none) g (fun _ => []) (fun _ => []) 0 (fun _ => False) := by
  have hb13 := hb2.trans (hb3.mono hb2.size)
  have hNl := heap_lt h1.cells
  have hMl := h1.map.lt
  have s2 := hb2.size
  refine ⟨⟨_, h1.below hb13⟩, ⟨⟨.slice none 0 0, [], ⟨hc, Kd.N_nil _ _ _ _ _, Nat.le_trans hb1.size (Nat.le_trans s2 hg), ⟨⟨rfl, fun e => by omega, fun e => by omega⟩, fun e => e⟩⟩, Rep.nil, Nat.le_refl _⟩, h1.room1, h1.room2, h1.few⟩, hb1.trans (hb13.mono hb1.size), fun k e => e.elim⟩
/-- The elder network is put aside: the copy stands in its place. -/
theorem Duo.aside {W1 W2 W3 W4 : World} {C Mc : Nat} {own' own1 own2 : Nat → Option ByteArray} {G' : ByteArray → Option Value} {Q1 Q2 : ByteArray → List S34} (h : Duo w W N M room own g Q Q n (fun _ => False)) (hb : Below W.heap.size W W1) (hN : NetG W1 C Mc room W.heap.size own' G' Q)
    (hb2 : Below W1.heap.size W1 W2) (hk3 : Keep2 W2 N M g own W3 own1) (ho3 : ∀ k, Out own N M k → k < W2.heap.size → W3.heap[k]? = W2.heap[k]?) (hs3 : W2.heap.size ≤ W3.heap.size) (h3 : Duo w W3 N M room own1 g Q1 Q n (fun _ => False))
    (hk4 : Keep2 W3 N M g own1 W4 own2) (ho4 : ∀ k, Out own1 N M k → k < W3.heap.size → W4.heap[k]? = W3.heap[k]?) (hs4 : W3.heap.size ≤ W4.heap.size) (h4 : Duo w W4 N M room own2 g Q2 Q n (fun _ => False)) :
    Duo w W4 C Mc room own' g Q Q n (fun _ => False) ∧ ∀ k, k < W.heap.size → k ≠ g → Out own N M k → W4.heap[k]? = W.heap[k]? ∧ Out own' C Mc k := by
  have hgg := h.g_
  have s1 := hb.size
  have s2 := hb2.size
  have kept : ∀ k, Out own N M k → k < W1.heap.size → W4.heap[k]? = W1.heap[k]? := fun k ho hk => by
    have e2 := hb2.block k hk
    have e3 := ho3 k ho (by omega)
    have o3 : Out own1 N M k := by
      by_cases e : k = g
      · subst e; exact h3.g_.1
      · exact (hk3 k ho e (by omega)).2
    exact (ho4 k o3 (by omega)).trans (e3.trans e2)
  have out : ∀ k, k < W.heap.size → Out own' C Mc k := fun k hk => by
    refine ⟨?_, fun e => by have := hN.baseN; omega, fun e => by have := hN.baseM; omega⟩
    cases ho : own' k with
    | none => rfl
    | some t => have := (hN.lt k t ho).1; omega
  have hN4 : NetG W4 C Mc room W.heap.size own' G' Q := hN.move (by omega) (fun k hk hw => kept k (h.fresh (by
    rcases hw with hw | hw | hw
    · subst hw; exact hN.baseN
    · subst hw; exact hN.baseM
    · obtain ⟨t, ht⟩ := Option.ne_none_iff_exists'.1 hw
      exact (hN.lt k t ht).1)).1 hk)
  refine ⟨⟨⟨G', hN4.lower h.below.size⟩, h.ref.move (fun k ho hk => (kept k ho.1 (by omega)).trans (hb.block k hk)) (fun k ho hk => ⟨out k hk, fun e => e⟩), h4.below, fun k e => e.elim⟩, fun k hk hg ho => ⟨(kept k ho (by omega)).trans (hb.block k hk), out k hk⟩⟩
end
theorem Duo.drop2 {w W : World} {N M g : Nat} {room : Int} {own : Nat → Option ByteArray} {Qn Q : ByteArray → List S34} {n : Nat} {I : Nat → Prop} (h : Duo w W N M room own g Qn Q n I) (s : ByteArray) (i : Int) :
    Calls Try.prog 12 #[.pointer (some ⟨N, 0, none⟩), .string s, .int .i64 i] W fun e W' => ∃ E : Int, e = .returned (.int .i64 E) ∧ ∃ own', Duo w W' N M room own' g (takeQ Qn s i) Q n I ∧ Keep2 W N M g own W' own' ∧ (∀ k, Out own N M k → k < W.heap.size → W'.heap[k]? = W.heap[k]?) ∧ W.heap.size ≤ W'.heap.size := by
  obtain ⟨G, hN⟩ := h.net
  exact (drop_any hN s i).mono fun e W' ⟨he, own', hL⟩ => ⟨_, he, own', (h.left hL).1, (h.left hL).2.1, (h.left hL).2.2.1, (h.left hL).2.2.2⟩
set_option maxHeartbeats 8000000 in
set_option maxRecDepth 100000 in
theorem does_law (room : Int) (A : Option Addr) (c : Nat) (l : List S31) (w : World) (h1 : 1 ≤ room) (h2 : room ≤ 256) (hc : l.length ≤ c) (hr : k31.C w A l.length l) (hok : OkDoes l) :
    Calls Try.prog 5 #[.int .i64 room, .slice A l.length c] w fun e w' => e = .returned (.bool true) ∧ Below w.heap.size w w' := by
  have HR := Aside0.mk hr
  have HOK := Aside0.mk hok
  have HC := Aside0.mk hc
  have HRM := Aside0.mk (And.intro h1 h2)
  have hr1 : ¬ room < 1 := by omega
  have hr2 : ¬ room > 256 := by omega
  clear hr hok hc h1 h2
  go_enter Try.func5, Try.ntmps5
  go_wp2_with (first
    | (go_at_call 7; (with_reducible refine (new_calls room _ HRM.out.1 HRM.out.2).mono ?_); rintro e wa ⟨N, M, rfl, hN, hb, hNl, hMl⟩; have HN0 := Aside0.mk hN; have HB0 := Aside0.mk hb; clear hN hb hNl hMl)
    | (go_at_call 8; (with_reducible refine (live_calls _).mono ?_); rintro e wb ⟨rfl, hb⟩; have HB1 := Aside0.mk hb; clear hb)
    | ((with_reducible refine gate_dst (N := 37) rfl ?_); refine box_event ?hg (N := 37) ?hd (cs := #[.int .i64 room, .slice none 0 0]) (t := 55) ?hr ?_; (case hd => rfl); (case hg => rfl); (case hr => first | (go_simp; done) | (go_simp; rfl)); intro g hX wg hx1 hb1; have HD0 := Aside0.mk (Duo.made HN0.out HB0.out HB1.out (by omega) hx1 hb1); clear hX hx1 hb1)
    | (go_at_call 9; (with_reducible refine (few_calls _ _ l _ HC.out (Kd.C_below HR.out HD0.out.below) HOK.out.few).mono ?_); rintro e wc ⟨m, hm, hm2, rfl, hb⟩; have H3 := Aside0.mk (HD0.out.then_ hb); have HMM := Aside0.mk (And.intro hm hm2); clear hb hm hm2))
  clear hr1 hr2
  go_loopg [5, 47] (m + 1) (fun kq v5 v47 wr => ∃ (j N M : Nat) (own : Nat → Option ByteArray) (Q : ByteArray → List S34), v5 = .pointer (some ⟨N, 0, none⟩) ∧ v47 = .int .i64 j ∧ Aside0 (kq + j = m + 1 ∧ j ≤ m) ∧ Aside0 (Duo w wr N M room own g Q Q j (fun _ => False)))
  case atStart => exact ⟨0, N, M, _, _, rfl, rfl, ⟨by omega⟩, H3⟩
  case round =>
    clear HN0 HB0 HB1 HD0 H3
    obtain ⟨j, N, M, own, Q, rfl, rfl, HJ, HM⟩ := hrel
    cases gk with
    | zero => have := HJ.out; omega
    | succ k1 =>
    by_cases hlt : j < m
    · have hj0 : (0 : Int) ≤ (j : Int) := by omega
      have hj1 : (j : Int) < (l.length : Int) := by have := HMM.out; omega
      have hj2 : (j : Int) + 1 ≤ 9223372036854775807 := by have := HMM.out; omega
      have hjm : (j : Int) < (m : Int) := by omega
      have HB := Aside0.mk (show j ≤ 120 by have := HMM.out; omega)
      obtain ⟨ad, A1, c1, hA, x0, x1, x2, x3, hc1, hF1⟩ := at_T31 HR.out (j : Int) hj0 hj1
      simp only [Int.toNat_natCast] at x0 x1 x2 x3
      replace x0 := pw_cell_below HM.out.below x0
      replace x1 := pw_cell_below HM.out.below x1
      replace x2 := pw_cell_below HM.out.below x2
      replace x3 := pw_cell_below HM.out.below x3
      have HX := Aside0.mk (HOK.out.each (rd_T31 l (j : Int)) (by
        have hx : rd_T31 l (j : Int) = l.getD j z31 := rfl
        rw [hx, List.getD_eq_getElem?_getD, List.getElem?_eq_getElem (by omega)]; exact List.getElem_mem _))
      subst hA
      clear hlt
      generalize rd_T31 l (j : Int) = x at *
      obtain ⟨xdo, s, ls, xi⟩ := x
      dsimp only at x0 x1 x2 x3 hc1 hF1 HX
      obtain ⟨n, hn⟩ : ∃ n : Nat, n = ls.length := ⟨_, rfl⟩
      rw [← hn] at x2 hc1 hF1
      have HF1 := Aside0.mk (And.intro hF1 (And.intro hn hc1))
      have hnn : n ≤ c1 := hc1
      clear hF1 hn hc1
      by_cases e4 : xdo = 4
      · subst e4
        go_wp2_with (first
          | ((with_reducible refine gate_dst (N := 9) rfl ?_); refine box_event ?hg (N := 9) ?hd (cs := (opL 0 ⟨#[]⟩ none 0 0 0).toArray) (t := 31) ?hr ?_; (case hd => rfl); (case hg => rfl); (case hr => first | (go_simp; done) | (go_simp; rfl)); intro X hX w1 hx1 hb1; have H1 := Aside0.mk (And.intro hx1 (And.intro hb1 (show wr.heap.size ≤ X by omega))); clear hX hx1 hb1)
          | ((with_reducible refine gate_ (.store 31 (.tmp 9) (.tmp 50)) rfl ?_); refine store_blk rfl 31 (.tmp 9) (.tmp 50) rfl X (opL 0 ⟨#[]⟩ none 0 0 0) (opL 4 s A1 n c1 xi) rfl rfl H1.out.1 rfl size31 (opL_one _ _ _ _ _ _) ?_; intro w2 ha hka hba; have HX2 := Aside0.mk (DuoX.made HM.out H1.out.2.2 (hba wr H1.out.2.2 H1.out.2.1) ha); clear ha hka hba x0 x1 x2 x3; obtain ⟨x0, x1, x2, x3⟩ := cellsO HX2.out.blk)
          | (go_at_call 20; obtain ⟨_, st, hG9, hR9, hst9⟩ := HX2.out.d.ref.ex; obtain ⟨G9, hN9⟩ := HX2.out.d.net; (with_reducible refine (clone_calls hN9 hR9 (by have := HB.out; omega)).mono ?_); clear hG9 hR9 hst9 hN9; rintro e w3 ⟨C, rfl, ⟨Mc, ownc, Gc, hNc⟩, hb⟩; have HC := Aside0.mk hNc; have HB3 := Aside0.mk hb; have H3 := Aside0.mk (HX2.out.then_ hb); clear hNc hb x0 x1 x2 x3; obtain ⟨x0, x1, x2, x3⟩ := cellsO H3.out.blk)
          | ((with_reducible refine gate_dst (N := 60) rfl ?_); refine box_ev82 ?hg (N := 60) ?hd (cs := #[.int .i64 9, .slice none 0 0]) ?hr ?_; (case hd => rfl); (case hg => rfl); (case hr => first | (go_simp; done) | (go_simp; rfl)); intro b4 w4 hX hx1 hb1; have H4 := Aside0.mk (H3.out.then_ hb1); have HB4 := Aside0.mk hb1; have HL4 := Aside0.mk (lit1 hx1 (H3.out.d.fresh hX).1); clear hX hx1 hb1 x0 x1 x2 x3; obtain ⟨x0, x1, x2, x3⟩ := cellsO H4.out.blk)
          | (go_at_call 10; (with_reducible refine (H4.out.d.send ⟨#[97]⟩ HL4.out rfl (Nat.le_refl _) (by intro y hy; rw [List.mem_singleton.1 hy]; decide) rfl rfl).mono ?_); rintro e w5a ⟨rfl, own5, hd, hk, ho, hsz⟩; have H5 := Aside0.mk (H4.out.keep hd hk (fun e => e)); have HK5 := Aside0.mk hk; have HO5 := Aside0.mk ho; have HS5 := Aside0.mk hsz; clear hd hk ho hsz x0 x1 x2 x3; obtain ⟨x0, x1, x2, x3⟩ := cellsO H5.out.blk)
          | (go_at_call 12; (with_reducible refine (H5.out.d.drop2 s 0).mono ?_); rintro e w5 ⟨E5, rfl, own5b, hd, hk, ho, hsz⟩; obtain ⟨hdn, hkn⟩ := HX2.out.d.aside HB3.out HC.out HB4.out HK5.out HO5.out HS5.out H5.out.d hk ho hsz hd; have HXC := Aside0.mk (show DuoX w w5 C Mc room ownc g Q Q j (fun _ => False) X (opL 4 s A1 n c1 xi) 31 from ⟨hdn, (hkn X (heap_lt HX2.out.blk) HX2.out.ng HX2.out.o).2, HX2.out.ng, fun e => e, (hkn X (heap_lt HX2.out.blk) HX2.out.ng HX2.out.o).1.trans HX2.out.blk⟩); clear hdn hkn hd hk ho hsz x0 x1 x2 x3; obtain ⟨x0, x1, x2, x3⟩ := cellsO HXC.out.blk)
          | (go_at_call 21; (with_reducible refine (does_calls HXC.out.d (by have := HB.out; omega) 4 s HX.out.1 A1 n c1 ls xi HF1.out.1 HF1.out.2.1 HF1.out.2.2 (by have := HX.out.2.1; have := HF1.out.2.1; omega) HX.out.2.2).mono ?_); rintro e w6 ⟨rfl, own6, Q6, hd, hk, hsz⟩; have H6 := Aside0.mk (HXC.out.keep hd hk (fun e => e)); clear hd hk hsz x0 x1 x2 x3; obtain ⟨x0, x1, x2, x3⟩ := cellsO H6.out.blk)
          | (go_at_call 22; (with_reducible refine (same_net_calls H6.out.d (by have := HB.out; omega)).mono ?_); rintro e w7 ⟨rfl, hd, hk, hsz⟩; have H7 := Aside0.mk (H6.out.keep hd hk (fun e => e)); clear hd hk hsz x0 x1 x2 x3; obtain ⟨x0, x1, x2, x3⟩ := cellsO H7.out.blk)
          | (go_at_call 23; (with_reducible refine (sameof_calls H7.out.d (by have := HB.out; omega) s).mono ?_); rintro e w8 ⟨rfl, hd, hk, hsz⟩; have H8 := Aside0.mk hd; clear hd hk hsz x0 x1 x2 x3))
        go_roundg k1
        case measure => omega
        case rel => exact ⟨j + 1, C, _, _, _, rfl, by first | rfl | (simp; done) | (rw [wrap64_self (n := (j : Int) + 1) (by omega) (by omega)]; first | rfl | (simp; done)), ⟨by have := HJ.out; omega⟩, H8⟩
      · have e4' : (xdo == 4) = false := by rw [beq_eq_false_iff_ne]; exact e4
        go_wp2_with (first
          | ((with_reducible refine gate_dst (N := 9) rfl ?_); refine box_event ?hg (N := 9) ?hd (cs := (opL 0 ⟨#[]⟩ none 0 0 0).toArray) (t := 31) ?hr ?_; (case hd => rfl); (case hg => rfl); (case hr => first | (go_simp; done) | (go_simp; rfl)); intro X hX w1 hx1 hb1; have H1 := Aside0.mk (And.intro hx1 (And.intro hb1 (show wr.heap.size ≤ X by omega))); clear hX hx1 hb1)
          | ((with_reducible refine gate_ (.store 31 (.tmp 9) (.tmp 50)) rfl ?_); refine store_blk rfl 31 (.tmp 9) (.tmp 50) rfl X (opL 0 ⟨#[]⟩ none 0 0 0) (opL xdo s A1 n c1 xi) rfl rfl H1.out.1 rfl size31 (opL_one _ _ _ _ _ _) ?_; intro w2 ha hka hba; have HX2 := Aside0.mk (DuoX.made HM.out H1.out.2.2 (hba wr H1.out.2.2 H1.out.2.1) ha); clear ha hka hba x0 x1 x2 x3; obtain ⟨x0, x1, x2, x3⟩ := cellsO HX2.out.blk)
          | (go_at_call 21; (with_reducible refine (does_calls HX2.out.d (by have := HB.out; omega) xdo s HX.out.1 A1 n c1 ls xi HF1.out.1 HF1.out.2.1 HF1.out.2.2 (by have := HX.out.2.1; have := HF1.out.2.1; omega) HX.out.2.2).mono ?_); rintro e w6 ⟨rfl, own6, Q6, hd, hk, hsz⟩; have H6 := Aside0.mk (HX2.out.keep hd hk (fun e => e)); clear hd hk hsz x0 x1 x2 x3; obtain ⟨x0, x1, x2, x3⟩ := cellsO H6.out.blk)
          | (go_at_call 22; (with_reducible refine (same_net_calls H6.out.d (by have := HB.out; omega)).mono ?_); rintro e w7 ⟨rfl, hd, hk, hsz⟩; have H7 := Aside0.mk (H6.out.keep hd hk (fun e => e)); clear hd hk hsz x0 x1 x2 x3; obtain ⟨x0, x1, x2, x3⟩ := cellsO H7.out.blk)
          | (go_at_call 23; (with_reducible refine (sameof_calls H7.out.d (by have := HB.out; omega) s).mono ?_); rintro e w8 ⟨rfl, hd, hk, hsz⟩; have H8 := Aside0.mk hd; clear hd hk hsz x0 x1 x2 x3))
        go_roundg k1
        case measure => omega
        case rel => exact ⟨j + 1, N, _, _, _, rfl, by first | rfl | (simp; done) | (rw [wrap64_self (n := (j : Int) + 1) (by omega) (by omega)]; first | rfl | (simp; done)), ⟨by have := HJ.out; omega⟩, H8⟩
    · have hjm : ¬ (j : Int) < (m : Int) := by omega
      clear hlt
      go_wp2_with (fail)
      go_ret
      exact ⟨by first | rfl | simp, HM.out.below⟩
end Go.Proofs.Ytlnipfmgdkiboaa.N
/- The law NetDoes, as its row takes it. -/
namespace Go.Proofs.Ytlnipfmgdkiboaa.Q
open Go.RowKit Go.Proofs.Ytlnipfmgdkiboaa.N Go.Proofs.YtlnipfmgdkiboaaW.PrintWords Go.Proofs.YtlnipfmgdkiboaaW.PrintLast Go.Proofs.YtlnipfmgdkiboaaW.PrintMore
set_option linter.unusedVariables false
set_option maxHeartbeats 800000 in
set_option maxRecDepth 100000 in
theorem does_bad (room : Int) (A : Option Addr) (c : Nat) (n : Nat) (w : World) (hr : ¬(1 ≤ room ∧ room ≤ 256)) :
    Calls Try.prog 5 #[.int .i64 room, .slice A n c] w fun e w' => e = .returned (.bool true) ∧ Below w.heap.size w w' := by
  have HR := Aside0.mk hr
  have HB := Aside0.mk (Below.refl w.heap.size w)
  by_cases h1 : room < 1
  · clear hr
    go_enter Try.func5, Try.ntmps5
    go_wp2_with (first
      | (go_at_call 7; (with_reducible refine (new_bad room _ HR.out).mono ?_); rintro e w' ⟨rfl, rfl⟩)
      | (go_at_call 8; (with_reducible refine (live_calls _).mono ?_); rintro e w1 ⟨rfl, hb⟩; have HBn := Aside0.mk (HB.out.trans (hb.mono HB.out.size)); clear HB hb; have HB := HBn; clear HBn))
    go_ret
    exact ⟨rfl, HB.out⟩
  · have h2 : room > 256 := by omega
    clear hr
    go_enter Try.func5, Try.ntmps5
    go_wp2_with (first
      | (go_at_call 7; (with_reducible refine (new_bad room _ HR.out).mono ?_); rintro e w' ⟨rfl, rfl⟩)
      | (go_at_call 8; (with_reducible refine (live_calls _).mono ?_); rintro e w1 ⟨rfl, hb⟩; have HBn := Aside0.mk (HB.out.trans (hb.mono HB.out.size)); clear HB hb; have HB := HBn; clear HBn))
    go_ret
    exact ⟨rfl, HB.out⟩
open Classical in
/-- What the law answers, where the acts are within the reach. -/
noncomputable def manometerlaw23_NetDoes.f (a0 : Int) (l1 : List S31) : Option Bool := if OkDoes l1 then some true else none
theorem manometerlaw23_NetDoes.calls (a0 : Int) (A1 : Option Addr) (c1 : Nat) (l1 : List S31) (r : Bool) (w : World) (hr1 : Kd.C k31 w A1 l1.length l1) (hc1 : l1.length ≤ c1) (hT : r = true) (h : manometerlaw23_NetDoes.f a0 l1 = some r) :
    Calls Try.prog 5 #[.int .i64 a0, .slice A1 l1.length c1] w fun e w' => e = .returned (.bool r) ∧ Below w.heap.size w w' := by
  subst hT
  have hok : OkDoes l1 := by
    unfold manometerlaw23_NetDoes.f at h
    split at h
    · assumption
    · cases h
  by_cases hr : 1 ≤ a0 ∧ a0 ≤ 256
  · exact does_law a0 A1 c1 l1 w hr.1 hr.2 hc1 hr1 hok
  · exact does_bad a0 A1 c1 l1.length w hr
end Go.Proofs.Ytlnipfmgdkiboaa.Q
