/- Patterns by hand: atom (mkX7.py). -/
import Derived.Test.YtmfpikhmeacnbaaDoorX6
namespace Go.Proofs.YtmfpikhmeacnbaaDoor.X
open Go.RowKit Go.Proofs.YtmfpikhmeacnbaaDoor.Q Go.Proofs.YtmfpikhmeacnbaaDoorW.PrintWords Go.Proofs.YtmfpikhmeacnbaaDoorW.PrintLast Go.Proofs.YtmfpikhmeacnbaaDoorW.PrintMore
set_option linter.unusedVariables false
set_option linter.unusedSimpArgs false
theorem rune91 : Rune 91 := ⟨by decide, by decide, by decide⟩
theorem rune46 : Rune 46 := ⟨by decide, by decide, by decide⟩
set_option maxHeartbeats 2000000 in
set_option maxRecDepth 100000 in
theorem atom_calls {s : ByteArray} {k : Nat} (PA : PaOk s k) {w : World} {b i d sz : Nat} (h : Rd w b s i d sz) (hz : sz ≤ i) (hc : ∀ c, peekF s i = some c → 0 ≤ c) {R : Res (Pt × Nat)} (hf : atF (k + 1) s d i = some R) : Calls Tryd.prog 46 #[.pointer (some ⟨b, 0, none⟩)] w (PostP b s d sz w R) := by
  have PA := Aside0.mk PA
  have HH := Aside0.mk h
  have HSZ := Aside0.mk hz
  have HSZ1 := Aside0.mk (show sz ≤ i + 1 by omega)
  have HW := Aside0.mk (show wrap64 ((sz : Int) + 1) = ((sz + 1 : Nat) : Int) by have h1 := h.short; have h2 := h.le; unfold wrap64; omega)
  have hd := atF_head hf
  unfold AtB at hd
  have HPR : ∀ {c : Int}, peekF s i = some c → 0 ≤ c → Rune c ∧ i + rl c ≤ s.size := fun hp h0 => (peek_rune h.le hp).resolve_left (by omega)
  have HPR := Aside0.mk @HPR
  have HCC := Aside0.mk hc
  clear h hz hf hc
  rcases hd with ⟨hp, rfl⟩ | ⟨hp, hq⟩ | ⟨hp, hq⟩ | ⟨hp, rfl⟩ | ⟨hp, a1, e1, hq, rfl⟩ | ⟨hp, l, sg, j, hq, rfl⟩ | ⟨c, hp, f1, f2, f3, f4, hs, rfl⟩ | ⟨c, hp, f1, f2, f3, f4, hs, h0, rfl⟩
  · have HP := Aside0.mk hp
    clear hp
    go_enter Tryd.func46, Tryd.ntmps46
    go_wp2_with (go_at_call 36; (with_reducible refine (peek_no HH.out HP.out).mono ?_); rintro e w1 ⟨rfl, hb⟩; have HS1 := Aside0.mk (Stp.of (b := b) hb); clear hb)
    exact ⟨rfl, rfl, HS1.out⟩
  · have HP := Aside0.mk hp
    have HQ := Aside0.mk hq
    clear hp hq
    go_enter Tryd.func46, Tryd.ntmps46
    obtain ⟨R', hR'⟩ : ∃ R', R' = R := ⟨_, rfl⟩
    rw [← hR']
    have HRR := Aside0.mk hR'
    clear hR'
    cases R with
    | bad a1 e1 =>
      go_wp2_with (first
        | (go_at_call 36; (with_reducible refine (peek_ok HH.out HP.out).mono ?_); rintro e w1 ⟨rfl, hb⟩; have HS1 := Aside0.mk (Stp.of (b := b) hb); have H1 := Aside0.mk (HH.out.below hb); clear hb)
        | (go_at_call 51; (with_reducible refine (group_calls PA.out H1.out HSZ.out HP.out HQ.out).mono ?_); rintro e w2 ⟨rfl, hs⟩; have HS2 := Aside0.mk (HS1.out.trans hs); clear hs))
      rw [HRR.out]
      exact ⟨rfl, rfl, HS2.out⟩
    | ok pm j =>
      obtain ⟨p, m⟩ := pm
      go_wp2_with (first
        | (go_at_call 36; (with_reducible refine (peek_ok HH.out HP.out).mono ?_); rintro e w1 ⟨rfl, hb⟩; have HS1 := Aside0.mk (Stp.of (b := b) hb); have H1 := Aside0.mk (HH.out.below hb); clear hb)
        | (go_at_call 51; (with_reducible refine (group_calls PA.out H1.out HSZ.out HP.out HQ.out).mono ?_); rintro e w2 ⟨q, rfl, h2, hs, ht⟩; have H2 := Aside0.mk h2; have HS2 := Aside0.mk (HS1.out.trans hs); have HT2 := Aside0.mk ht; clear h2 hs ht))
      rw [HRR.out]
      go_ret
      exact ⟨q, rfl, H2.out, HS2.out, HT2.out.down HS1.out.size⟩
  · have HP := Aside0.mk hp
    have HQ := Aside0.mk hq
    have HC := Aside0.mk (HPR.out hp (by decide)).2
    clear hp hq
    obtain ⟨R', hR'⟩ : ∃ R', R' = R := ⟨_, rfl⟩
    rw [← hR']
    have HRR := Aside0.mk hR'
    clear hR'
    cases R with
    | bad a1 e1 =>
      go_enter Tryd.func46, Tryd.ntmps46
      go_wp2_with (first
        | (go_at_call 36; (with_reducible refine (peek_ok HH.out HP.out).mono ?_); rintro e w1 ⟨rfl, hb⟩; have HS1 := Aside0.mk (Stp.of (b := b) hb); have H1 := Aside0.mk (HH.out.below hb); clear hb)
        | (go_at_call 37; (with_reducible refine (skip_calls H1.out rune91 HC.out).mono ?_); rintro e w2 ⟨rfl, h2, hs⟩; have H2 := Aside0.mk (show Rd w2 b s (i + 1) d sz from h2); have HS2 := Aside0.mk (HS1.out.trans hs); clear hs;  clear h2)
        | (go_at_call 52; (with_reducible refine (cls_calls H2.out HSZ1.out HQ.out).mono ?_); rintro e w3 ⟨rfl, hs⟩; have HS3 := Aside0.mk (HS2.out.trans hs); clear hs))
      rw [HRR.out]
      exact ⟨rfl, rfl, HS3.out⟩
    | ok pm j =>
      obtain ⟨p, m⟩ := pm
      go_enter Tryd.func46, Tryd.ntmps46
      go_wp2_with (first
        | (go_at_call 36; (with_reducible refine (peek_ok HH.out HP.out).mono ?_); rintro e w1 ⟨rfl, hb⟩; have HS1 := Aside0.mk (Stp.of (b := b) hb); have H1 := Aside0.mk (HH.out.below hb); clear hb)
        | (go_at_call 37; (with_reducible refine (skip_calls H1.out rune91 HC.out).mono ?_); rintro e w2 ⟨rfl, h2, hs⟩; have H2 := Aside0.mk (show Rd w2 b s (i + 1) d sz from h2); have HS2 := Aside0.mk (HS1.out.trans hs); clear hs;  clear h2)
        | (go_at_call 52; (with_reducible refine (cls_calls H2.out HSZ1.out HQ.out).mono ?_); rintro e w3 ⟨q, rfl, h3, hs, ht⟩; have H3 := Aside0.mk h3; have HS3 := Aside0.mk (HS2.out.trans hs); have HT3 := Aside0.mk ht; clear h3 hs ht))
      rw [HRR.out]
      go_ret
      exact ⟨q, rfl, H3.out, HS3.out, HT3.out.down HS2.out.size⟩
  · have HP := Aside0.mk hp
    have HC := Aside0.mk (HPR.out hp (by decide)).2
    clear hp
    go_enter Tryd.func46, Tryd.ntmps46
    go_wp2_with (first
      | (go_at_call 36; (with_reducible refine (peek_ok HH.out HP.out).mono ?_); rintro e w1 ⟨rfl, hb⟩; have HS1 := Aside0.mk (Stp.of (b := b) hb); have H1 := Aside0.mk (HH.out.below hb); clear hb)
      | (go_at_call 37; (with_reducible refine (skip_calls H1.out rune46 HC.out).mono ?_); rintro e w2 ⟨rfl, h2, hs⟩; have H2 := Aside0.mk (show Rd w2 b s (i + 1) d sz from h2); have HS2 := Aside0.mk (HS1.out.trans hs); clear hs; obtain ⟨c0, c1, c2, c3⟩ := h2.cell; have f3 := h2.frozen 3; clear h2)
      | ((with_reducible refine gate_dst (N := 35) rfl ?_); refine box_event ?hg (N := 35) ?hd (cs := (ndL 0 (.slice none 0 0) true false (.slice none 0 0) 0).toArray) (t := 74) ?hr ?_; (case hd => rfl); (case hg => rfl); (case hr => first | (go_simp; done) | (go_simp; rfl)); intro X hX w5 hx5 hb5; have HX := Aside0.mk hX; have HXB5 := Aside0.mk hx5; have HB5 := Aside0.mk hb5; clear hX hx5 hb5))
    go_ret
    have h4 := Rd.setz H2.out HW.out
    have hs4 := HS2.out.trans (Stp.set (b := b) (w := w2) 3 (.int .i64 (wrap64 ((sz : Int) + 1))))
    exact ⟨X, rfl, h4.below HB5.out, hs4.trans (Stp.of HB5.out), nd_one (A := none) (cc := 0) (l := []) (by rw [HX.out]; exact hs4.size) HXB5.out (Kd.R_nil _ _ _ _ _)⟩
  · have HP := Aside0.mk hp
    have HC := Aside0.mk (HPR.out hp (by decide)).2
    have HQ := Aside0.mk hq
    clear hp hq
    go_enter Tryd.func46, Tryd.ntmps46
    go_wp2_with (first
      | (go_at_call 36; (with_reducible refine (peek_ok HH.out HP.out).mono ?_); rintro e w1 ⟨rfl, hb⟩; have HS1 := Aside0.mk (Stp.of (b := b) hb); have H1 := Aside0.mk (HH.out.below hb); clear hb)
      | (go_at_call 37; (with_reducible refine (skip_calls H1.out rune92 HC.out).mono ?_); rintro e w2 ⟨rfl, h2, hs⟩; have H2 := Aside0.mk (show Rd w2 b s (i + 1) d sz from h2); have HS2 := Aside0.mk (HS1.out.trans hs); clear hs;  clear h2)
      | (go_at_call 53; (with_reducible refine (esc_bad H2.out HQ.out).mono ?_); rintro e w3 ⟨rfl, hs⟩; have HS3 := Aside0.mk (HS2.out.trans hs); clear hs))
    exact ⟨rfl, rfl, HS3.out⟩
  · have HP := Aside0.mk hp
    have HC := Aside0.mk (HPR.out hp (by decide)).2
    have HQ := Aside0.mk hq
    clear hp hq
    go_enter Tryd.func46, Tryd.ntmps46
    go_wp2_with (first
      | (go_at_call 36; (with_reducible refine (peek_ok HH.out HP.out).mono ?_); rintro e w1 ⟨rfl, hb⟩; have HS1 := Aside0.mk (Stp.of (b := b) hb); have H1 := Aside0.mk (HH.out.below hb); clear hb)
      | (go_at_call 37; (with_reducible refine (skip_calls H1.out rune92 HC.out).mono ?_); rintro e w2 ⟨rfl, h2, hs⟩; have H2 := Aside0.mk (show Rd w2 b s (i + 1) d sz from h2); have HS2 := Aside0.mk (HS1.out.trans hs); clear hs;  clear h2)
      | (go_at_call 53; (with_reducible refine (esc_ok H2.out HQ.out).mono ?_); rintro e w3 ⟨v, rfl, h3, hs, hSp⟩; obtain ⟨g4, c4, rfl, hR⟩ := id hSp; have H3 := Aside0.mk h3; have HS3 := Aside0.mk (HS2.out.trans hs); have HR := Aside0.mk hR; obtain ⟨c0, c1, c2, c3⟩ := h3.cell; have f3 := h3.frozen 3; clear h3 hs hSp hR)
      | ((with_reducible refine gate_dst (N := 57) rfl ?_); refine box_event ?hg (N := 57) ?hd (cs := (ndL 0 (.slice (some ⟨g4, 0, none⟩) l.length c4) false sg (.slice none 0 0) 0).toArray) (t := 74) ?hr ?_; (case hd => rfl); (case hg => rfl); (case hr => first | (go_simp; done) | (go_simp; rfl)); intro X hX w5 hx5 hb5; have HX := Aside0.mk hX; have HXB5 := Aside0.mk hx5; have HB5 := Aside0.mk hb5; clear hX hx5 hb5))
    go_ret
    have h4 := Rd.setz H3.out HW.out
    have hs4 := HS3.out.trans (Stp.set (b := b) (w := w3) 3 (.int .i64 (wrap64 ((sz : Int) + 1))))
    exact ⟨X, rfl, h4.below HB5.out, hs4.trans (Stp.of HB5.out), nd_one (by rw [HX.out]; exact hs4.size) HXB5.out (Kd.R_lower (Kd.R_mono (Kd.R_below (Kd.R_far HR.out (fun q hq => fun e => by have h1 := HH.out.lt; have h2 := HS2.out.size; have e' : q = b := e; omega) _) HB5.out) (fun q hq => Nat.le_trans HS2.out.size hq)) HS2.out.size)⟩
  · have HSP := Aside0.mk (hs.resolve_right (by have := HCC.out c hp; omega))
    have HP := Aside0.mk hp
    clear hp hs
    go_enter Tryd.func46, Tryd.ntmps46
    go_wp2_with (first
      | (go_at_call 36; (with_reducible refine (peek_ok HH.out HP.out).mono ?_); rintro e w1 ⟨rfl, hb⟩; have HS1 := Aside0.mk (Stp.of (b := b) hb); have H1 := Aside0.mk (HH.out.below hb); clear hb)
      | (go_at_call 31; (with_reducible refine (special_calls c _).mono ?_); rw [HSP.out]; rintro e w2 ⟨rfl, hb⟩; have HS2 := Aside0.mk (HS1.out.trans (Stp.of (b := b) hb)); have H2 := Aside0.mk (H1.out.below hb); clear hb)
      | (go_at_call 23; (with_reducible refine (bad_calls H2.out 8).mono ?_); rintro e w' ⟨rfl, rfl⟩))
    exact ⟨rfl, rfl, HS2.out⟩
  · have HSP := Aside0.mk hs
    have HRN := Aside0.mk (HPR.out hp (by omega)).1
    have HC := Aside0.mk (HPR.out hp (by omega)).2
    have HP := Aside0.mk hp
    clear hp hs h0
    go_enter Tryd.func46, Tryd.ntmps46
    go_wp2_with (first
      | (go_at_call 36; (with_reducible refine (peek_ok HH.out HP.out).mono ?_); rintro e w1 ⟨rfl, hb⟩; have HS1 := Aside0.mk (Stp.of (b := b) hb); have H1 := Aside0.mk (HH.out.below hb); clear hb)
      | (go_at_call 31; (with_reducible refine (special_calls c _).mono ?_); rw [HSP.out]; rintro e w3 ⟨rfl, hb⟩; have HS3 := Aside0.mk (HS1.out.trans (Stp.of (b := b) hb)); have H3 := Aside0.mk (H1.out.below hb); clear hb)
      | (go_at_call 37; (with_reducible refine (skip_calls H3.out HRN.out HC.out).mono ?_); rintro e w2 ⟨rfl, h2, hs⟩; have H2 := Aside0.mk h2; have HS2 := Aside0.mk (HS3.out.trans hs); clear hs; obtain ⟨c0, c1, c2, c3⟩ := h2.cell; have f3 := h2.frozen 3; clear h2)
      | ((with_reducible refine gate_dst (N := 78) rfl ?_); refine box_event ?hg (N := 78) ?hd (cs := (ndL 0 (.slice (some ⟨w2.heap.size, 0, none⟩) 1 1) false true (.slice none 0 0) 0).toArray) (t := 74) ?hr ?_; (case hd => rfl); (case hg => rfl); (case hr => first | (go_simp; done) | (go_simp; rfl)); intro X hX w5 hx5 hb5; have HX := Aside0.mk hX; have HXB5 := Aside0.mk hx5; have HB5 := Aside0.mk hb5; clear hX hx5 hb5))
    go_ret
    have h4 := Rd.setz H2.out HW.out
    have hs4 := HS2.out.trans (Stp.set (b := b) (w := w2) 3 (.int .i64 (wrap64 ((sz : Int) + 1))))
    have hb4 := below_alloc (Below.refl (w2.setCell ⟨b, 3, none⟩ (.int .i64 (wrap64 ((sz : Int) + 1)))).heap.size (w2.setCell ⟨b, 3, none⟩ (.int .i64 (wrap64 ((sz : Int) + 1))))) (.cells #[.int .i32 c, .int .i32 c] 86)
    have hsp := Spn.mk1 (w := w2.setCell ⟨b, 3, none⟩ (.int .i64 (wrap64 ((sz : Int) + 1)))) (c := c) (b := w2.heap.size) (by simp) (by have hbn := blk_new (w2.setCell ⟨b, 3, none⟩ (.int .i64 (wrap64 ((sz : Int) + 1)))) (.cells #[.int .i32 c, .int .i32 c] 86); rw [World.size_setCell] at hbn; exact hbn)
    obtain ⟨g4, c4, hv, hR⟩ := hsp
    have h5 := (h4.below hb4).below HB5.out
    have hs5 := (hs4.trans (Stp.of hb4)).trans (Stp.of HB5.out)
    refine ⟨X, rfl, h5, hs5, nd_one (l := [⟨c, c⟩]) (by rw [HX.out]; exact Nat.le_trans hs4.size hb4.size) HXB5.out (Kd.R_lower (Kd.R_mono (Kd.R_below hR HB5.out) (fun q hq => Nat.le_trans hs4.size hq)) hs4.size)⟩
end Go.Proofs.YtmfpikhmeacnbaaDoor.X
