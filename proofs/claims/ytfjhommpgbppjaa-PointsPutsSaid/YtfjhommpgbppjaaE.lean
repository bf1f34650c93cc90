import Derived.Test.YtfjhommpgbppjaaQ0
import Derived.Lib.Hide
namespace Go.Proofs.Ytfjhommpgbppjaa.Q
open Go.RowKit Go.Proofs.YtfjhommpgbppjaaW.PrintWords Go.Proofs.YtfjhommpgbppjaaW.PrintLast Go.Proofs.YtfjhommpgbppjaaW.PrintMore
set_option linter.unusedVariables false
set_option linter.unusedSimpArgs false

theorem ret_int {k : IntKind} {a b : Int} (h : a = b) : Ending.returned (.int k a) = .returned (.int k b) := by rw [h]
set_option maxHeartbeats 400000 in
theorem find1_calls (a0 a1 a2 t : Int) (g : Nat) (w : World) (hg : w.cell? ⟨g, 0, none⟩ = some (.int .i64 t)) :
    Calls Try.prog 35 #[.agg #[.int .i64 a0, .int .u64 a1, .int .u64 a2], .pointer (some ⟨g, 0, none⟩)] w fun e w' => e = .returned (.bool (decide (t ≤ a0))) ∧ Below w.heap.size w w' := by
  have hu25 := Try.underlying25
  have HB := Aside0.mk (Below.refl w.heap.size w)
  have hlt := World.block_lt_of_cell? w _ hg
  go_enter Try.func35, Try.ntmps35
  go_wp2
  go_ret
  exact ⟨rfl, by repeat (first | exact HB.out | apply below_alloc)⟩

/-- The place that halving finds. -/
def bs (l : List S25) (t : Int) : Nat → Nat → Nat → Nat
  | 0, lo, _ => lo
  | k + 1, lo, hi => if lo < hi then (if t ≤ (l.getD (lo + (hi - lo) / 2) z25).f0 then bs l t k lo (lo + (hi - lo) / 2) else bs l t k (lo + (hi - lo) / 2 + 1) hi) else lo

set_option maxHeartbeats 1000000 in
theorem search_calls (A0 : Option Addr) (c0 : Nat) (l0 : List S25) (t : Int) (g : Nat) (w : World) (hr0 : Kd.C k25 w A0 l0.length l0) (hlen : l0.length < 5864062014805) (hg : w.cell? ⟨g, 0, none⟩ = some (.int .i64 t)) :
    Calls Try.prog 34 #[.slice A0 l0.length c0, .func (.func 35) #[] #[.pointer (some ⟨g, 0, none⟩)]] w fun e w' => e = .returned (.int .i64 (bs l0 t l0.length 0 l0.length)) ∧ Below w.heap.size w w' := by
  have hu25 := Try.underlying25
  have HR0 := Aside0.mk hr0
  have HG := Aside0.mk hg
  clear hr0 hg
  have HB := Aside0.mk (Below.refl w.heap.size w)
  go_enter Try.func34, Try.ntmps34
  go_wp2
  go_loopw [5, 6] (fun v5 v6 w' => ∃ lo hi k : Nat, lo ≤ hi ∧ hi ≤ l0.length ∧ hi - lo ≤ k ∧ v5 = .int .i64 lo ∧ v6 = .int .i64 hi ∧ Aside0 (bs l0 t l0.length 0 l0.length = bs l0 t k lo hi) ∧ Aside0 (Below w.heap.size w w')) (fun v5 v6 _ => (intOf v6 - intOf v5).toNat)
  case atStart => exact ⟨0, l0.length, l0.length, Nat.zero_le _, Nat.le_refl _, by omega, rfl, rfl, ⟨rfl⟩, HB⟩
  case round =>
    obtain ⟨lo, hi, k, hlh, hhl, hk, rfl, rfl, HS, HB1⟩ := hrel
    by_cases hlt : lo < hi
    · obtain ⟨ad, e, h0, h1, h2⟩ := at_T25 HR0.out ((lo + (hi - lo) / 2 : Nat) : Int) (by omega) (by omega)
      cases e
      rw [Int.toNat_natCast] at h0 h1 h2
      replace h0 := (HB1.out.cell (World.block_lt_of_cell? w _ h0)).trans h0
      replace h1 := (HB1.out.cell (World.block_lt_of_cell? w _ h1)).trans h1
      replace h2 := (HB1.out.cell (World.block_lt_of_cell? w _ h2)).trans h2
      have hG := (HB1.out.cell (World.block_lt_of_cell? w _ HG.out)).trans HG.out
      have e0 : rd_T25 l0 ((lo + (hi - lo) / 2 : Nat) : Int) = l0.getD (lo + (hi - lo) / 2) z25 := rfl
      rw [e0] at h0 h1 h2
      clear e0
      obtain ⟨p, hp⟩ : ∃ p, l0.getD (lo + (hi - lo) / 2) z25 = p := ⟨_, rfl⟩
      rw [hp] at h0 h1 h2
      have HP := Lib.hid hp
      clear hp
      go_wp2_with (go_at_call 35; refine (find1_calls _ _ _ t g _ hG).mono ?_; rintro e w2 ⟨rfl, hb2⟩)
      all_goals obtain ⟨k, rfl⟩ : ∃ j, k = j + 1 := ⟨k - 1, by omega⟩
      · have hle : t ≤ p.f0 := by assumption
        have hs : bs l0 t l0.length 0 l0.length = bs l0 t k lo (lo + (hi - lo) / 2) := by
          rw [HS.out]; show (if lo < hi then _ else _) = _; rw [if_pos hlt, HP.out, if_pos hle]
        go_roundw
        case rel => exact ⟨lo, lo + (hi - lo) / 2, k, by omega, by omega, by omega, rfl, by go_num, ⟨hs⟩, ⟨below_then HB1.out HB1.out.size hb2⟩⟩
        case measure => simp [intOf]; omega
      · have hle : ¬ t ≤ p.f0 := by have : p.f0 < t := by assumption
                                    omega
        have hs : bs l0 t l0.length 0 l0.length = bs l0 t k (lo + (hi - lo) / 2 + 1) hi := by
          rw [HS.out]; show (if lo < hi then _ else _) = _; rw [if_pos hlt, HP.out, if_neg hle]
        go_roundw
        case rel => exact ⟨lo + (hi - lo) / 2 + 1, hi, k, by omega, by omega, by omega, by go_num, rfl, ⟨hs⟩, ⟨below_then HB1.out HB1.out.size hb2⟩⟩
        case measure => simp [intOf]; omega
    · have hs : bs l0 t l0.length 0 l0.length = lo := by
        rw [HS.out]; cases k with
        | zero => rfl
        | succ k => show (if lo < hi then _ else _) = _; rw [if_neg hlt]
      have HZ := Lib.hid hs
      clear hs
      go_wp2
      go_ret
      exact ⟨ret_int (by rw [HZ.out]), HB1.out⟩

/-- Find: the place that halving finds, and whether the time stands there. -/
def points_Find.f (l0 : List S25) (a1 : Int) : Option (Int × Bool) :=
  if l0.length < 5864062014805 then some ((bs l0 a1 l0.length 0 l0.length : Int), decide (bs l0 a1 l0.length 0 l0.length < l0.length) && decide ((l0.getD (bs l0 a1 l0.length 0 l0.length) z25).f0 = a1)) else none

set_option maxHeartbeats 1000000 in
theorem points_Find.calls (A0 : Option Addr) (c0 : Nat) (l0 : List S25) (a1 : Int) (r1 : Int) (r2 : Bool) (w : World) (hr0 : Kd.C k25 w A0 l0.length l0) (hc0 : l0.length ≤ c0) (h : points_Find.f l0 a1 = some (r1, r2)) :
    Calls Try.prog 18 #[.slice A0 l0.length c0, .int .i64 a1] w fun e w' => e = .returned (.tuple #[.int .i64 r1, .bool r2]) ∧ Below w.heap.size w w' := by
  unfold points_Find.f at h
  by_cases hl : l0.length < 5864062014805
  · rw [if_pos hl] at h
    obtain ⟨n, hn⟩ : ∃ n, bs l0 a1 l0.length 0 l0.length = n := ⟨_, rfl⟩
    rw [hn] at h
    have HN := Lib.hid hn
    clear hn
    simp only [Option.some.injEq, Prod.mk.injEq] at h
    obtain ⟨rfl, rfl⟩ := h
    have HR0 := Aside0.mk hr0
    clear hr0
    have HB := Aside0.mk (Below.refl w.heap.size w)
    go_enter Try.func18, Try.ntmps18
    have hcb : (w.alloc (.cells #[.int .i64 a1] 2)).cell? ⟨w.heap.size, 0, none⟩ = some (.int .i64 a1) := by simp [go_sem]
    go_wp2_with (go_at_call 34; refine (search_calls _ _ l0 a1 w.heap.size _ (Kd.C_below HR0.out (below_alloc HB.out _)) hl hcb).mono ?_; rintro e w2 ⟨rfl, hb2⟩)
    have hb1 : Below w.heap.size w w2 := below_then (below_alloc HB.out _) (by simp) hb2
    have hbx : w2.cell? ⟨w.heap.size, 0, none⟩ = some (.int .i64 a1) := (hb2.cell (by simp)).trans hcb
    clear hcb hb2
    rw [HN.out]
    by_cases hlt : n < l0.length
    · obtain ⟨ad, e, h0, h1, h2⟩ := at_T25 HR0.out (n : Int) (by omega) (by omega)
      cases e
      rw [Int.toNat_natCast] at h0 h1 h2
      replace h0 := (hb1.cell (World.block_lt_of_cell? w _ h0)).trans h0
      have e0 : rd_T25 l0 (n : Int) = l0.getD n z25 := rfl
      rw [e0] at h0
      clear e0 h1 h2
      obtain ⟨p, hp⟩ : ∃ p, l0.getD n z25 = p := ⟨_, rfl⟩
      rw [hp] at h0
      have HP := Lib.hid hp
      clear hp
      have hd : decide (n < l0.length) = true := decide_eq_true hlt
      have hd2 : decide ((n : Int) < (l0.length : Int)) = true := decide_eq_true (by omega)
      go_quiet (fail)
      go_wp2
      go_ret2
      exact ⟨by rw [HP.out]; simp [hlt]; rfl, by repeat (first | exact hb1 | apply pw_below_drewN)⟩
    · have hd : decide (n < l0.length) = false := decide_eq_false hlt
      have hd2 : decide ((n : Int) < (l0.length : Int)) = false := decide_eq_false (by omega)
      go_quiet (fail)
      go_wp2
      go_ret2
      exact ⟨by simp [hlt], by repeat (first | exact hb1 | apply pw_below_drewN)⟩
  · rw [if_neg hl] at h; cases h

end Go.Proofs.Ytfjhommpgbppjaa.Q
