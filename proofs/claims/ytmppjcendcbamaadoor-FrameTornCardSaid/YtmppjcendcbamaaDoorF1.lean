/- Plain laws of frame: the sums, without program and memory. -/
import Derived.Test.YtmppjcendcbamaaDoorQ3
import Derived.Test.YtmppjcendcbamaaDoorE3
import Derived.Laws.BitsAllLaws
namespace Go.Proofs.YtmppjcendcbamaaDoor.FF
open Go.RowKit Go.Proofs.YtmppjcendcbamaaDoor.Q Go.Proofs.YtmppjcendcbamaaDoorW.PrintWords Go.Proofs.YtmppjcendcbamaaDoorW.PrintLast Go.Proofs.YtmppjcendcbamaaDoorW.PrintMore
set_option linter.unusedVariables false

theorem wrap_in {n : Int} (h0 : -9223372036854775808 ≤ n) (h1 : n ≤ 9223372036854775807) : wrap64 n = n := by unfold wrap64; omega
/-- These are bytes. -/
def By (l : List Int) : Prop := ∀ c ∈ l, 0 ≤ c ∧ c < 256
theorem By.of_wf {l : List Int} (h : ∀ y ∈ l, (Lit.int .u8 y).wf = true) : By l := fun c hc => by
  have := h c hc
  simp [Lit.wf] at this
  have e1 : IntKind.u8.min = 0 := by decide
  have e2 : IntKind.u8.max = 255 := by decide
  omega
theorem By.nil : By [] := fun _ h => by cases h
theorem By.append {a b : List Int} (ha : By a) (hb : By b) : By (a ++ b) := fun c h => (List.mem_append.1 h).elim (ha c) (hb c)
theorem By.left {a b : List Int} (h : By (a ++ b)) : By a := fun c hc => h c (List.mem_append_left _ hc)
theorem By.right {a b : List Int} (h : By (a ++ b)) : By b := fun c hc => h c (List.mem_append_right _ hc)
theorem By.take {a : List Int} (h : By a) (n : Nat) : By (a.take n) := fun c hc => h c (List.mem_of_mem_take hc)
theorem By.drop {a : List Int} (h : By a) (n : Nat) : By (a.drop n) := fun c hc => h c (List.mem_of_mem_drop hc)
theorem By.flatten {l : List (List Int)} (h : ∀ p ∈ l, By p) : By l.flatten := fun c hc => by
  obtain ⟨p, hp, hc⟩ := List.mem_flatten.1 hc
  exact h p hp c hc
theorem By.nats {l : List Int} (h : By l) : ∀ c ∈ l.map Int.toNat, c < 256 := fun c hc => by
  obtain ⟨x, hx, rfl⟩ := List.mem_map.1 hc
  have := h x hx
  omega
theorem nat_of {s : Int} (h0 : 0 ≤ s) : ∃ n : Nat, s = (n : Int) := ⟨s.toNat, by omega⟩

/-- The sum that goes on over bytes. -/
def mo (s : Nat) (l : List Int) : Nat := moreN s (l.map Int.toNat)
theorem xor_ones {s : Nat} : (s ^^^ ones) ^^^ ones = s := by rw [Nat.xor_assoc, Nat.xor_self, Nat.xor_zero]
theorem ones_lt : ones < 4294967296 := by decide
theorem mo_lt {s : Nat} {l : List Int} (hs : s < 4294967296) (hl : By l) : mo s l < 4294967296 :=
  xor_lt (fold_lt _ _ (xor_lt hs ones_lt) hl.nats) ones_lt
theorem mo_nil (s : Nat) : mo s [] = s := xor_ones
theorem mo_append (s : Nat) (a b : List Int) : mo (mo s a) b = mo s (a ++ b) := by
  unfold mo moreN
  rw [xor_ones, List.map_append, List.foldl_append]
theorem more_f {s : Nat} {l : List Int} (hs : s < 4294967296) (hl : By l) : frame_More.f (s : Int) l = some (mo s l : Int) := by
  unfold frame_More.f
  rw [if_pos ⟨⟨by omega, by omega⟩, hl⟩, Int.toNat_natCast]; rfl
theorem sum_loop (parts : List (List Int)) (h : ∀ p ∈ parts, By p) (hn : parts.length ≤ 9223372036854775806) (d : Nat) :
    ∀ (k i s : Nat), i ≤ parts.length → parts.length - i = d → d < k → s < 4294967296 → frame_Sum.l0 k (s : Int) parts (parts.length : Int) (i : Int) = some (mo s (parts.drop i).flatten : Int) := by
  induction d with
  | zero =>
    intro k i s hi hd hk hs
    obtain ⟨k, rfl⟩ : ∃ m, k = m + 1 := ⟨k - 1, by omega⟩
    rw [frame_Sum.l0, if_neg (by omega), List.drop_eq_nil_of_le (by omega), List.flatten_nil, mo_nil]
  | succ d ih =>
    intro k i s hi hd hk hs
    obtain ⟨k, rfl⟩ : ∃ m, k = m + 1 := ⟨k - 1, by omega⟩
    have hil : i < parts.length := by omega
    have hp := h _ (List.getElem_mem hil)
    have hrd : rd_L2 parts (i : Int) = parts[i] := by
      show parts.getD i [] = _
      simp [List.getD, hil]
    rw [frame_Sum.l0, if_pos (by omega), if_pos (by omega), if_pos (by omega), hrd, more_f hs hp, Option.bind_some, show wrap64 ((i : Int) + 1) = ((i + 1 : Nat) : Int) by rw [wrap_in (by omega) (by omega)]; omega,
      ih k (i + 1) _ (by omega) (by omega) (by omega) (mo_lt hs hp), List.drop_eq_getElem_cons hil, List.flatten_cons, mo_append]
theorem sum {parts : List (List Int)} (h : ∀ p ∈ parts, By p) (hn : parts.length ≤ 9223372036854775806) {k : Nat} (hk : parts.length < k) : frame_Sum.f k parts = some (mo 0 parts.flatten : Int) := by
  have := sum_loop parts h hn parts.length k 0 0 (by omega) (by omega) hk (by omega)
  rwa [List.drop_zero] at this

/-- One bit of a sum, as the document steps. -/
def poly : Nat := 2197175160
def st1 (s : Nat) : Nat := (s / 2) ^^^ (if s % 2 = 1 then poly else 0)
theorem poly_lt : poly < 4294967296 := by decide
theorem xor_two (a b : Nat) : (a ^^^ b) / 2 = a / 2 ^^^ b / 2 ∧ (a ^^^ b) % 2 = (a % 2 + b % 2) % 2 := by
  refine ⟨by simpa using Nat.xor_div_two_pow (a := a) (b := b) (n := 1), ?_⟩
  have := Nat.xor_mod_two_pow (a := a) (b := b) (n := 1)
  rw [Nat.pow_one] at this
  rw [this]
  have ha : a % 2 = 0 ∨ a % 2 = 1 := by omega
  have hb : b % 2 = 0 ∨ b % 2 = 1 := by omega
  rcases ha with ha | ha <;> rcases hb with hb | hb <;> rw [ha, hb] <;> rfl
theorem st1_xor (a b : Nat) : st1 (a ^^^ b) = st1 a ^^^ st1 b := by
  obtain ⟨h1, h2⟩ := xor_two a b
  unfold st1
  rw [h1, h2]
  have ha : a % 2 = 0 ∨ a % 2 = 1 := by omega
  have hb : b % 2 = 0 ∨ b % 2 = 1 := by omega
  rcases ha with ha | ha <;> rcases hb with hb | hb <;> rw [ha, hb] <;> simp
  · exact Nat.xor_assoc _ _ _
  · rw [Nat.xor_assoc, Nat.xor_comm (b / 2), ← Nat.xor_assoc]
  · rw [Nat.xor_assoc, ← Nat.xor_assoc poly, Nat.xor_comm poly, Nat.xor_assoc (b / 2), Nat.xor_self, Nat.xor_zero]
theorem st1_lt {s : Nat} (h : s < 4294967296) : st1 s < 4294967296 := by
  unfold st1
  refine xor_lt (by omega) ?_
  split
  · exact poly_lt
  · omega
theorem st1_even (q : Nat) : st1 (2 * q) = q := by unfold st1; rw [if_neg (by omega), Nat.xor_zero]; omega
theorem st1_tab : ∀ r, r < 16 → st1 (st1 (st1 (st1 r))) = stepsN.getD r 0 := by decide
theorem split16 (s : Nat) : s = (16 * (s / 16)) ^^^ (s % 16) := by
  have h := Nat.two_pow_add_eq_or_of_lt (i := 4) (b := s % 16) (by omega) (s / 16)
  have h2 : 2 ^ 4 * (s / 16) ^^^ (s % 16) = 2 ^ 4 * (s / 16) ||| (s % 16) := by
    apply Nat.eq_of_testBit_eq
    intro i
    rw [Nat.testBit_xor, Nat.testBit_or]
    by_cases hi : i < 4
    · rw [Nat.testBit_two_pow_mul]; simp [hi, Nat.not_le.2 hi]
    · rw [Nat.testBit_lt_two_pow (x := s % 16) (i := i) (Nat.lt_of_lt_of_le (Nat.mod_lt _ (by decide)) (Nat.pow_le_pow_right (n := 2) (by decide) (Nat.le_of_not_lt hi)))]; simp
  have h3 : (16 : Nat) = 2 ^ 4 := rfl
  rw [h3] at *
  rw [h2, ← h]
  omega
theorem st4_eq (s : Nat) : st1 (st1 (st1 (st1 s))) = st4 s := by
  have e : st1 (st1 (st1 (st1 s))) = st1 (st1 (st1 (st1 ((16 * (s / 16)) ^^^ (s % 16))))) := by rw [← split16 s]
  rw [e, st1_xor, st1_xor, st1_xor, st1_xor, st1_tab (s % 16) (by omega), show 16 * (s / 16) = 2 * (8 * (s / 16)) by omega, st1_even, show 8 * (s / 16) = 2 * (4 * (s / 16)) by omega, st1_even, show 4 * (s / 16) = 2 * (2 * (s / 16)) by omega, st1_even, st1_even]
  rfl
def its (n : Nat) (s : Nat) : Nat := match n with | 0 => s | n + 1 => its n (st1 s)
theorem its8 (s : Nat) : its 8 s = st4 (st4 s) := by
  rw [← st4_eq, ← st4_eq]; rfl
theorem ref_l1 (l : List Int) (n : Int) (i : Int) (d : Nat) : ∀ (k j s : Nat), j ≤ 8 → 8 - j = d → d < k → s < 4294967296 →
    ∃ s', s' = its d s ∧ s' < 4294967296 ∧ manometerref02_More.l1 k (s : Int) l n i (j : Int) = manometerref02_More.l0 (k - d - 1) (s' : Int) l n (wrap64 (i + 1)) := by
  induction d with
  | zero =>
    intro k j s hj hd hk hs
    obtain ⟨k, rfl⟩ : ∃ m, k = m + 1 := ⟨k - 1, by omega⟩
    refine ⟨s, rfl, hs, ?_⟩
    rw [manometerref02_More.l1, if_neg (by omega)]; rfl
  | succ d ih =>
    intro k j s hj hd hk hs
    obtain ⟨k, rfl⟩ : ∃ m, k = m + 1 := ⟨k - 1, by omega⟩
    obtain ⟨s', h1, h2, h3⟩ := ih k (j + 1) (st1 s) (by omega) (by omega) (by omega) (st1_lt hs)
    refine ⟨s', h1, h2, ?_⟩
    rw [show k + 1 - (d + 1) - 1 = k - d - 1 by omega, ← h3, manometerref02_More.l1, if_pos (by omega), show wrap64 ((j : Int) + 1) = ((j + 1 : Nat) : Int) by rw [wrap_in (by omega) (by omega)]; omega]
    have e1 : Int.tmod (s : Int) 2 = ((s % 2 : Nat) : Int) := (Int.ofNat_tmod s 2).symm
    have e2 : (Int.tdiv (s : Int) 2) % 4294967296 = ((s / 2 : Nat) : Int) := by
      rw [show Int.tdiv (s : Int) 2 = ((s / 2 : Nat) : Int) from (Int.ofNat_tdiv s 2).symm]; omega
    rw [e1, e2]
    unfold st1
    by_cases hb : s % 2 = 1
    · rw [if_pos (by omega), if_pos hb]
      have := u32_xor_nat (s / 2) poly (by omega) poly_lt
      rw [show (2197175160 : Int) = (poly : Int) from rfl, this]
    · rw [if_neg (by omega), if_neg hb, Nat.xor_zero]
theorem rd_lt {l : List Int} {i : Nat} (h : i < l.length) : rd l (i : Int) = l[i] := by
  show l.getD i 0 = _
  simp [List.getD, h]
theorem ref_loop (l : List Int) (hl : By l) (hn : l.length ≤ 9223372036854775806) (d : Nat) : ∀ (k i s : Nat), i ≤ l.length → l.length - i = d → 10 * d < k → s < 4294967296 →
    manometerref02_More.l0 k (s : Int) l (l.length : Int) (i : Int) = some ((((l.drop i).map Int.toNat).foldl stB s ^^^ ones : Nat) : Int) := by
  induction d with
  | zero =>
    intro k i s hi hd hk hs
    obtain ⟨k, rfl⟩ : ∃ m, k = m + 1 := ⟨k - 1, by omega⟩
    rw [manometerref02_More.l0, if_neg (by omega), List.drop_eq_nil_of_le (by omega)]
    have := u32_xor_nat s ones hs ones_lt
    rw [show (4294967295 : Int) = (ones : Int) from rfl, this]; rfl
  | succ d ih =>
    intro k i s hi hd hk hs
    obtain ⟨k, rfl⟩ : ∃ m, k = m + 1 := ⟨k - 1, by omega⟩
    have hil : i < l.length := by omega
    have hb := hl _ (List.getElem_mem hil)
    obtain ⟨c, hc⟩ := nat_of hb.1
    have hc2 : c < 256 := by omega
    rw [manometerref02_More.l0, if_pos (by omega), if_pos (by omega), if_pos (by omega), rd_lt hil, hc]
    have e0 : (c : Int) % 4294967296 = (c : Int) := by omega
    rw [e0, u32_xor_nat s c hs (by omega)]
    obtain ⟨s', h1, h2, h3⟩ := ref_l1 l (l.length : Int) (i : Int) 8 k 0 (s ^^^ c) (by omega) (by omega) (by omega) (xor_lt hs (by omega))
    rw [show ((0 : Nat) : Int) = 0 from rfl] at h3
    rw [h3, show wrap64 ((i : Int) + 1) = ((i + 1 : Nat) : Int) by rw [wrap_in (by omega) (by omega)]; omega, ih _ (i + 1) s' (by omega) (by omega) (by omega) h2, List.drop_eq_getElem_cons hil, List.map_cons, List.foldl_cons, h1, its8, hc, Int.toNat_natCast]
    rfl
theorem ref_more {s : Nat} {l : List Int} (hs : s < 4294967296) (hl : By l) (hn : l.length ≤ 9223372036854775806) {k : Nat} (hk : 10 * l.length < k) : manometerref02_More.f k (s : Int) l = some (mo s l : Int) := by
  unfold manometerref02_More.f
  have := u32_xor_nat s ones hs ones_lt
  rw [show (4294967295 : Int) = (ones : Int) from rfl, this]
  have := ref_loop l hl hn l.length k 0 (s ^^^ ones) (by omega) (by omega) hk (xor_lt hs ones_lt)
  rw [List.drop_zero] at this
  exact this
theorem ref_sum {l : List Int} (hl : By l) (hn : l.length ≤ 9223372036854775806) {k : Nat} (hk : 10 * l.length < k) : manometerref02_Sum.f k l = some (mo 0 l : Int) := by
  unfold manometerref02_Sum.f
  have := ref_more (s := 0) (by omega) hl hn hk
  rw [show ((0 : Nat) : Int) = 0 from rfl] at this
  rw [this, Option.bind_some]
end Go.Proofs.YtmppjcendcbamaaDoor.FF
