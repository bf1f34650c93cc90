import Derived.Test.YtmppjcendcbamaaDoorQ1
namespace Go.Proofs.YtmppjcendcbamaaDoor.Q
open Go.RowKit Go.Proofs.YtmppjcendcbamaaDoorW.PrintWords Go.Proofs.YtmppjcendcbamaaDoorW.PrintLast Go.Proofs.YtmppjcendcbamaaDoorW.PrintMore
set_option linter.unusedVariables false
set_option linter.unusedSimpArgs false

/-- A list of one row of bytes, laid down as an argument. -/
theorem lit1 {w : World} {base : Nat} {ok : Nat → Prop} {v : Value} {xs : List Int} (h : Kd.R (Kd.int .u8) 5 w base ok v xs) :
    Kd.C (Kd.slice 5 (Kd.int .u8)) (w.alloc (.cells #[v] 22)) (some ⟨w.heap.size, 0, none⟩) [xs].length [xs] := by
  obtain ⟨A, c, rfl, hl, hC⟩ := Kd.R_reads h
  refine ⟨rfl, by simp, fun _ => ⟨_, rfl, fun j p hj => ?_⟩⟩
  cases j with
  | succ j => simp at hj
  | zero =>
    simp at hj
    subst hj
    refine ⟨[.slice A xs.length c], rfl, ⟨A, c, rfl, hl, Kd.C_below hC (below_alloc (Below.refl _ _) _)⟩, fun i u hi => ?_⟩
    cases i with
    | succ i => simp at hi
    | zero => simp at hi; subst hi; simp [Addr.add, go_sem]

def frame_Put.f (k : Nat) (l0 : List Int) : Option (List Int × Int) :=
  if (l0.length : Int) > 1048576 then some ([], 3)
  else (bits_PutUvarint.f k (IntKind.u64.wrap (l0.length : Int))).bind fun h => (frame_Sum.f k [h ++ l0]).bind fun s => (frame_Mask.f s).bind fun m => (frame_tail.f (h ++ l0) m).bind fun r =>
    if h.length + l0.length < 140737488355328 then some (r, 0) else none
theorem frame_Put.mono : ∀ a0 k, LeO (frame_Put.f k a0) (frame_Put.f (k + 1) a0) := by
  intro a0 k
  unfold frame_Put.f
  refine LeO.ite (LeO.refl _) (LeO.bind (bits_PutUvarint.mono _ _) fun _ => LeO.bind (frame_Sum.mono _ _) fun _ => LeO.refl _)

set_option maxHeartbeats 4000000 in
set_option maxRecDepth 100000 in
theorem frame_Put.calls (k : Nat) (A0 : Option Addr) (c0 : Nat) (l0 : List Int) (r1 : List Int) (r2 : Int) (w : World) (hGlob : Glob w) (hr0 : Kd.C (Kd.int .u8) w A0 l0.length l0) (hc0 : l0.length ≤ c0) (h : frame_Put.f k l0 = some (r1, r2)) :
    Calls Tryd.prog 12 #[.slice A0 l0.length c0] w fun e w' => ∃ v0_ : Value, e = .returned (.tuple #[v0_, .int .i64 r2]) ∧ Kd.R (Kd.int .u8) 5 w' w.heap.size (fun _ => True) v0_ r1 ∧ Below w.heap.size w w' := by
  unfold frame_Put.f at h
  have HB := Aside0.mk (Below.refl w.heap.size w)
  by_cases hbig : (l0.length : Int) > 1048576
  · rw [if_pos hbig] at h
    simp only [Option.some.injEq, Prod.mk.injEq] at h
    obtain ⟨rfl, rfl⟩ := h
    have hd : decide ((1048576 : Int) < (l0.length : Int)) = true := decide_eq_true hbig
    have hd2 : decide (1048576 < l0.length) = true := decide_eq_true (by omega)
    go_enter Tryd.func12, Tryd.ntmps12
    go_wp2
    go_ret2
    exact ⟨_, rfl, Kd.R_nil _ _ _ _ _, HB.out⟩
  · rw [if_neg hbig] at h
    have hd : decide ((1048576 : Int) < (l0.length : Int)) = false := decide_eq_false hbig
    have hd2 : decide (1048576 < l0.length) = false := decide_eq_false (by omega)
    obtain ⟨hh, hA1, h⟩ := Option.bind_eq_some_iff.mp h
    obtain ⟨s, hA2, h⟩ := Option.bind_eq_some_iff.mp h
    obtain ⟨m, hA3, h⟩ := Option.bind_eq_some_iff.mp h
    obtain ⟨r, hA4, h⟩ := Option.bind_eq_some_iff.mp h
    have hlen : hh.length + l0.length < 140737488355328 := by
      by_cases e : hh.length + l0.length < 140737488355328
      · exact e
      · rw [if_neg e] at h; cases h
    rw [if_pos hlen] at h
    simp only [Option.some.injEq, Prod.mk.injEq] at h
    obtain ⟨rfl, rfl⟩ := h
    obtain ⟨o, ho⟩ : ∃ o, o = hh ++ l0 := ⟨_, rfl⟩
    rw [← ho] at hA2 hA4
    have HO := Aside0.mk ho
    clear ho
    have HR := Aside0.mk hr0
    have HC := Aside0.mk hc0
    have HG := Aside0.mk hGlob
    have HA1 := Aside0.mk hA1
    have HA2 := Aside0.mk hA2
    have HA3 := Aside0.mk hA3
    have HA4 := Aside0.mk hA4
    have HL := Aside0.mk hlen
    clear hr0 hc0 hGlob hA1 hA2 hA3 hA4 hlen hbig
    go_enter Tryd.func12, Tryd.ntmps12
    go_wp2_with (first
      | (go_at_call 33; (with_reducible refine (bits_PutUvarint.calls k _ hh _ HA1.out).mono ?_); rintro e w1 ⟨v1, rfl, hR1, hb1⟩; have HB1 := Aside0.mk hb1; have HR1 := Aside0.mk hR1; clear hb1 hR1)
      | ((with_reducible refine gate_builtin (b := .append) (xs := #[.tmp 11, .tmp 12]) rfl ?_); at_builtin; refine Kd.R_append_rows (Kd.int .u8) (w0 := w) w.heap.size rfl (.tmp 11) (.tmp 12) 22 5 (.int .u8 0) 1 rfl Tryd.underlying22 info5 rfl (by decide) (by omega) v1 hh l0 _ _ _ (fun _ => True) (fun _ => False) rfl rfl ?aO ?aR (fun _ _ h => h) (fun _ h => h.elim) ?aF ?aB ?aS ?aL ?_; (case aR => exact Kd.C_below HR.out HB1.out); (case aB => exact HB1.out); (case aF => exact fun _ _ => trivial); (case aO => exact HR1.out); (case aS => exact below_size HB1.out); (case aL => have := HL.out; omega); intro v2 w2 ho hb hg hat; rw [← HO.out] at ho; obtain ⟨Av2, cv2, ev2⟩ := Kd.R_slice ho; subst ev2; have HB2 := Aside0.mk hb; have HR2 := Aside0.mk ho; clear ho hb hg hat)
      | (go_at_call 20; (refine (frame_Sum.calls k _ _ [o] s _ ?sG (lit1 HR2.out) (Nat.le_refl _) HA2.out).mono ?_); (case sG => exact Glob.below HG.out (below_alloc HB2.out _)); rintro e w4 ⟨rfl, hb⟩; have HB4 := Aside0.mk (below_step (below_alloc HB2.out _) hb); have HR4 := Aside0.mk (Kd.R_below (Kd.R_alloc HR2.out _) hb); clear hb)
      | (go_at_call 24; (with_reducible refine (frame_Mask.calls s m _ HA3.out).mono ?_); rintro e w5 ⟨rfl, hb⟩; have HB5 := Aside0.mk (below_step HB4.out hb); have HR5 := Aside0.mk (Kd.R_below HR4.out hb); clear hb)
      | (go_at_call 34; (with_reducible refine (frame_tail.calls (fun _ => True) (.slice Av2 o.length cv2) o m r w _ ?tB ?tR HA4.out).mono ?_); (case tB => exact HB5.out); (case tR => exact HR5.out); rintro e w6 ⟨v6, rfl, hR6, hB6, _⟩; have HB6 := Aside0.mk hB6; have HR6 := Aside0.mk hR6; clear hB6 hR6))
    go_ret2
    exact ⟨_, rfl, Kd.R_mono HR6.out (fun _ _ => trivial), HB6.out⟩
end Go.Proofs.YtmppjcendcbamaaDoor.Q
