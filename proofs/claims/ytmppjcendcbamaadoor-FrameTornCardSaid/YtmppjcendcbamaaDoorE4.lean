/- The law's examples, walked by hand: rows of constant texts carry the run-time's mark, so they are handed on as read rows. -/
import Derived.Test.YtmppjcendcbamaaDoorE3
import Derived.Test.YtmppjcendcbamaaDoorQ2
import Derived.Lib.SmallJoins
namespace Go.Proofs.YtmppjcendcbamaaDoor.Q
open Go.RowKit Go.Proofs.YtmppjcendcbamaaDoorW.PrintWords Go.Proofs.YtmppjcendcbamaaDoorW.PrintLast Go.Proofs.YtmppjcendcbamaaDoorW.PrintMore
set_option linter.unusedVariables false
set_option linter.unusedSimpArgs false

/-- A row of bytes that is laid down, whatever its mark. -/
theorem litC (W : World) (g : Nat) (hg : g = W.heap.size) (xs : List Int) (fr : Nat × Nat) (e : TypeId) (hx : xs.length ≤ 1000) :
    Kd.C (Kd.int .u8) (W.alloc (.cells (xs.map fun x => Value.int .u8 x).toArray e fr)) (some ⟨g, 0, none⟩) xs.length xs := by
  subst hg
  refine ⟨rfl, by omega, fun _ => ⟨_, rfl, fun j p hj => ⟨[.int .u8 p], rfl, rfl, fun i u hi => ?_⟩⟩⟩
  cases i with
  | succ i => simp at hi
  | zero =>
    simp at hi
    subst hi
    rw [show j * (Kd.int IntKind.u8).sz + 0 = j from Nat.mul_one j]
    have e1 : (W.alloc (.cells (xs.map fun x => Value.int .u8 x).toArray e fr)).cell? ⟨W.heap.size, j, none⟩ = some (.int .u8 p) := by rw [World.cell?_alloc_mark]; simp [hj]
    cases j with
    | zero => simpa [Addr.add] using e1
    | succ j => simpa [Addr.add] using e1
theorem litC2 (W : World) (g : Nat) (hg : g = W.heap.size) (a b : Option Addr) (n m c d : Nat) (xs ys : List Int) (hn : xs.length = n) (hm : ys.length = m) (hc : n ≤ c) (hd : m ≤ d) (ha : Kd.C (Kd.int .u8) W a n xs) (hb : Kd.C (Kd.int .u8) W b m ys) :
    Kd.C (Kd.slice 5 (Kd.int .u8)) (W.alloc (.cells #[.slice a n c, .slice b m d] 22)) (some ⟨g, 0, none⟩) 2 [xs, ys] := by
  subst hn hm hg
  refine ⟨rfl, by omega, fun _ => ⟨_, rfl, fun j p hj => ?_⟩⟩
  match j, hj with
  | 0, hj =>
    simp at hj; subst hj
    refine ⟨[.slice a xs.length c], rfl, ⟨a, c, rfl, hc, Kd.C_below ha (below_alloc (Below.refl _ _) _)⟩, fun i u hi => ?_⟩
    cases i with
    | succ i => simp at hi
    | zero => simp at hi; subst hi; simp [Addr.add, go_sem]
  | 1, hj =>
    simp at hj; subst hj
    refine ⟨[.slice b ys.length d], rfl, ⟨b, d, rfl, hd, Kd.C_below hb (below_alloc (Below.refl _ _) _)⟩, fun i u hi => ?_⟩
    cases i with
    | succ i => simp at hi
    | zero => simp at hi; subst hi; rw [show 1 * (Kd.slice 5 (Kd.int IntKind.u8)).sz + 0 = 1 from rfl]; simp [Addr.add, go_sem]
  | j + 2, hj => simp at hj

def manometerlaw02_live.f (k : Nat) : Option Bool :=
  (frame_Put.f k [97, 98]).bind fun a => (frame_Get.f k a.1).bind fun b => (frame_Sum.f k [[49, 50, 51, 52], [53, 54, 55, 56, 57]]).bind fun s => (frame_Size.f k 0).bind fun z =>
    if s = 3808858755 ∧ a.2 = 0 ∧ a.1.length = 7 ∧ (strOfNums b.1).toList = [97, 98] ∧ b.2.1 = 7 ∧ b.2.2 = 0 ∧ z = 5 then some true else none
theorem manometerlaw02_live.mono : ∀ k, LeO (manometerlaw02_live.f k) (manometerlaw02_live.f (k + 1)) := by
  intro k
  unfold manometerlaw02_live.f
  refine LeO.bind (frame_Put.mono _ _) fun _ => LeO.bind (frame_Get.mono _ _) fun _ => LeO.bind (frame_Sum.mono _ _) fun _ => LeO.bind (frame_Size.mono _ _) fun _ => LeO.refl _

set_option maxHeartbeats 4000000 in
set_option maxRecDepth 100000 in
theorem manometerlaw02_live.calls (k : Nat) (r : Bool) (w : World) (hGlob : Glob w) (h : manometerlaw02_live.f k = some r) :
    Calls Tryd.prog 11 #[] w fun e w' => e = .returned (.bool r) ∧ Below w.heap.size w w' := by
  unfold manometerlaw02_live.f at h
  obtain ⟨⟨a1, a2⟩, hA1, h⟩ := Option.bind_eq_some_iff.mp h
  obtain ⟨⟨b1, b2, b3⟩, hA2, h⟩ := Option.bind_eq_some_iff.mp h
  obtain ⟨s, hA3, h⟩ := Option.bind_eq_some_iff.mp h
  obtain ⟨z, hA4, h⟩ := Option.bind_eq_some_iff.mp h
  dsimp only at h hA2
  by_cases hc : s = 3808858755 ∧ a2 = 0 ∧ a1.length = 7 ∧ (strOfNums b1).toList = [97, 98] ∧ b2 = 7 ∧ b3 = 0 ∧ z = 5
  · rw [if_pos hc] at h
    obtain rfl := Option.some.inj h
    clear h
    obtain ⟨rfl, rfl, hl, hs, rfl, rfl, rfl⟩ := hc
    have hsb : ((strOfNums b1).toList == ([97, 98] : List UInt8)) = true := beq_iff_eq.mpr hs
    have hlb : ((a1.length : Int) == 7) = true := beq_iff_eq.mpr (by omega)
    have HG := Aside0.mk hGlob
    have HA1 := Aside0.mk hA1
    have HA2 := Aside0.mk hA2
    have HA3 := Aside0.mk hA3
    have HA4 := Aside0.mk hA4
    have HL := Aside0.mk hl
    clear hGlob hA1 hA2 hA3 hA4 hl hs
    have HB := Aside0.mk (Below.refl w.heap.size w)
    have kc := fun (w : World) (C : Array Value) (n c g : Nat) (hg : g = w.heap.size) => Go.Joins.run_convert_bytes_const_at (P := Tryd.prog) w 22 5 C n c g hg Tryd.underlying22 Tryd.underlying5
    go_enter Tryd.func11, Tryd.ntmps11
    go_wp2_with (first
      | (go_at_call 12; (refine (frame_Put.calls k _ _ [97, 98] a1 0 _ ?g ?c (by decide) HA1.out).mono ?_); (case g => exact Glob.below HG.out (below_alloc HB.out _)); (case c => exact litC w _ rfl [97, 98] (2, 3) 5 (by decide)); rintro e w1 ⟨v1, rfl, hR, hb⟩; have HB1 := Aside0.mk (below_step (below_alloc HB.out _) hb); obtain ⟨A1, c1, e1⟩ := Kd.R_slice hR; subst e1; have HR1 := Aside0.mk hR; clear hR hb)
      | (go_at_call 18; (refine (frame_Get.calls k (fun k_ => some k_ = (.slice A1 a1.length c1 : Value).ownBlock) _ _ a1 b1 7 0 _ ?g ?c HA2.out).mono ?_); (case g => exact Glob.below HG.out HB1.out); (case c => exact Kd.R_V (Kd.R_tight rfl HR1.out)); rintro e w2 ⟨v2, rfl, hR, hb⟩; have HB2 := Aside0.mk (below_step HB1.out hb); have HR2 := Aside0.mk hR; clear hR hb)
      | (go_at_call 20; (refine (frame_Sum.calls k _ _ [[49, 50, 51, 52], [53, 54, 55, 56, 57]] 3808858755 _ ?g ?c (by decide) HA3.out).mono ?_); (case g => exact Glob.below HG.out (below_alloc (below_alloc (below_alloc HB2.out _) _) _)); (case c => exact litC2 _ _ (by simp [go_sem]) _ _ 4 5 4 5 [49, 50, 51, 52] [53, 54, 55, 56, 57] rfl rfl (by decide) (by decide) (Kd.C_alloc (litC w2 _ rfl [49, 50, 51, 52] (4, 5) 5 (by decide)) _) (litC _ _ (by simp [go_sem]) [53, 54, 55, 56, 57] (5, 6) 5 (by decide))); rintro e w3 ⟨rfl, hb⟩; have HB3 := Aside0.mk (below_step (below_alloc (below_alloc (below_alloc HB2.out _) _) _) hb); have HR3 := Aside0.mk (Kd.R_below (Kd.R_alloc (Kd.R_alloc (Kd.R_alloc HR2.out _) _) _) hb); clear hb; have hcv := own_string (P := Tryd.prog) Tryd.underlying22 Tryd.underlying5 Tryd.underlying9 (Kd.own_of_R HR3.out))
      | (go_at_call 15; (with_reducible refine (frame_Size.calls k 0 5 _ HA4.out).mono ?_); rintro e w4 ⟨rfl, hb⟩; have HB4 := Aside0.mk (below_step HB3.out hb); clear hb))
    go_ret
    exact ⟨rfl, HB4.out⟩
  · rw [if_neg hc] at h; cases h
end Go.Proofs.YtmppjcendcbamaaDoor.Q
