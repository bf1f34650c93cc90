/- Plain laws of frame, on: the number ahead is read. -/
import Derived.Test.YtmppjcendcbamaaDoorF2
import Derived.Test.YtmppjcendcbamaaDoorQ4
namespace Go.Proofs.YtmppjcendcbamaaDoor.FF
open Go.RowKit Go.Proofs.YtmppjcendcbamaaDoor.Q Go.Proofs.YtmppjcendcbamaaDoorW.PrintWords Go.Proofs.YtmppjcendcbamaaDoorW.PrintLast Go.Proofs.YtmppjcendcbamaaDoorW.PrintMore
set_option linter.unusedVariables false

/-- The number that bytes begin with, how many bytes it has, what is wrong. -/
def uvN : Nat → Nat → Nat → List Nat → Nat × Nat × Nat
  | 0, _, _, _ => (0, 0, 9)
  | _ + 1, _, _, [] => (0, 0, 6)
  | f + 1, i, x, c :: l =>
    if i = 9 ∧ c > 1 then (0, 0, 9)
    else if c < 128 then (if i > 0 ∧ c = 0 then (0, 0, 8) else (x + c % 128 * 2 ^ (7 * i), i + 1, 0))
    else uvN f (i + 1) (x + c % 128 * 2 ^ (7 * i)) l
abbrev tri (r : Nat × Nat × Nat) : Int × Int × Int := ((r.1 : Int), (r.2.1 : Int), (r.2.2 : Int))
theorem pow7 {i : Nat} (hi : i < 10) : ∃ p, p = 2 ^ (7 * i) ∧ 1 ≤ p ∧ p ≤ 9223372036854775808 ∧ (i ≤ 8 → p ≤ 72057594037927936) := by
  have : i = 0 ∨ i = 1 ∨ i = 2 ∨ i = 3 ∨ i = 4 ∨ i = 5 ∨ i = 6 ∨ i = 7 ∨ i = 8 ∨ i = 9 := by omega
  rcases this with rfl | rfl | rfl | rfl | rfl | rfl | rfl | rfl | rfl | rfl <;> exact ⟨_, rfl, by decide, by decide, by decide⟩
theorem step_lt {x c i : Nat} (hx : x < 2 ^ (7 * i)) : x + c % 128 * 2 ^ (7 * i) < 2 ^ (7 * (i + 1)) := by
  have e : 2 ^ (7 * (i + 1)) = 128 * 2 ^ (7 * i) := by rw [show 7 * (i + 1) = 7 * i + 7 by omega, Nat.pow_add]; omega
  rw [e]
  have : c % 128 * 2 ^ (7 * i) ≤ 127 * 2 ^ (7 * i) := Nat.mul_le_mul_right _ (by omega)
  omega
theorem piece {c i : Nat} (hc : c < 256) (hi : i < 10) (h9 : i = 9 → c ≤ 1) : c % 128 * 2 ^ (7 * i) < 18446744073709551616 := by
  obtain ⟨p, hp, h1, h2, h3⟩ := pow7 hi
  rw [← hp]
  by_cases h : i ≤ 8
  · have := h3 h
    have : c % 128 * p ≤ 127 * 72057594037927936 := Nat.mul_le_mul (by omega) this
    omega
  · have : c % 128 * p ≤ 1 * 9223372036854775808 := Nat.mul_le_mul (by have := h9 (by omega); omega) h2
    omega
theorem seven {i : Nat} (hi : i < 10) : IntKind.u64.wrap (wrap64 (7 * (i : Int))) = ((7 * i : Nat) : Int) := by
  rw [wrap_in (by omega) (by omega), IntKind.wrap_u64]; omega
theorem shl_nat {m i : Nat} (hi : i < 10) (h : m * 2 ^ (7 * i) < 18446744073709551616) : shl .u64 (m : Int) ((7 * i : Nat) : Int) = ((m * 2 ^ (7 * i) : Nat) : Int) := by
  unfold shl
  rw [Int.toNat_natCast, show min (7 * i) IntKind.u64.bits = 7 * i from Nat.min_eq_left (by show 7 * i ≤ 64; omega), IntKind.wrap_u64]
  have e : ((m : Int) * 2 ^ (7 * i)) = ((m * 2 ^ (7 * i) : Nat) : Int) := by push_cast; rfl
  rw [e]; omega
theorem acc {x c i : Nat} (hx : x < 2 ^ (7 * i)) (hc : c < 256) (hi : i < 10) (h9 : i = 9 → c ≤ 1) :
    Go.bits .or .u64 (x : Int) (shl .u64 (IntKind.u64.wrap (Go.bits .and .u8 (c : Int) 127)) (IntKind.u64.wrap (wrap64 (7 * (i : Int))))) = ((x + c % 128 * 2 ^ (7 * i) : Nat) : Int) := by
  have ha : Go.bits .and .u8 (c : Int) 127 = ((c % 128 : Nat) : Int) := by
    have := u8_and_nat c 127 hc (by decide)
    rwa [show c &&& 127 = c % 128 from Nat.and_two_pow_sub_one_eq_mod c 7] at this
  have hw : IntKind.u64.wrap ((c % 128 : Nat) : Int) = ((c % 128 : Nat) : Int) := by rw [IntKind.wrap_u64]; omega
  have hp := piece hc hi h9
  rw [ha, hw, seven hi, shl_nat hi hp]
  have hxl : x < 18446744073709551616 := by
    obtain ⟨p, hp, h1, h2, h3⟩ := pow7 hi
    omega
  rw [u64_or_nat x _ hxl hp]
  have h2 := Nat.two_pow_add_eq_or_of_lt hx (c % 128)
  rw [Nat.or_comm, Nat.mul_comm (c % 128), ← h2, Nat.add_comm]
theorem acc2 {x c i : Nat} (hx : x < 2 ^ (7 * i)) (hc : c < 256) (hi : i < 10) (h9 : i = 9 → c ≤ 1) :
    IntKind.u64.wrap ((x : Int) + (shl .u64 (IntKind.u64.wrap (Int.tmod (c : Int) 128)) (IntKind.u64.wrap (wrap64 (7 * (i : Int)))))) = ((x + c % 128 * 2 ^ (7 * i) : Nat) : Int) := by
  have ha : Int.tmod (c : Int) 128 = ((c % 128 : Nat) : Int) := (Int.ofNat_tmod c 128).symm
  have hw : IntKind.u64.wrap ((c % 128 : Nat) : Int) = ((c % 128 : Nat) : Int) := by rw [IntKind.wrap_u64]; omega
  have hp := piece hc hi h9
  rw [ha, hw, seven hi, shl_nat hi hp, IntKind.wrap_u64]
  have : x + c % 128 * 2 ^ (7 * i) < 18446744073709551616 := by
    obtain ⟨p, hq, h1, h2, h3⟩ := pow7 hi
    by_cases h : i ≤ 8
    · have := step_lt (c := c) hx
      have := h3 h
      have e : 2 ^ (7 * (i + 1)) = 128 * 2 ^ (7 * i) := by rw [show 7 * (i + 1) = 7 * i + 7 by omega, Nat.pow_add]; omega
      omega
    · have := h9 (by omega)
      have e : c % 128 * 2 ^ (7 * i) ≤ 1 * 2 ^ (7 * i) := Nat.mul_le_mul_right _ (by omega)
      omega
  omega
/-- A number of the bytes ahead: kept shut. -/
def Small (x i : Nat) : Prop := x < 2 ^ (7 * i)
theorem uv_read (b : List Int) (hb : By b) (hn : b.length ≤ 9223372036854775806) (d : Nat) : ∀ (k i x : Nat), i ≤ 10 → 10 - i = d → 2 * d + 2 < k → i ≤ b.length → Small x i →
    bits_Uvarint.l0 k b (x : Int) (i : Int) = some (tri (uvN d i x ((b.drop i).map Int.toNat))) := by
  induction d with
  | zero =>
    intro k i x hi hd hk hl hx
    obtain ⟨k, rfl⟩ : ∃ m, k = m + 1 := ⟨k - 1, by omega⟩
    rw [bits_Uvarint.l0, if_neg (by omega)]; rfl
  | succ d ih =>
    intro k i x hi hd hk hl hx
    obtain ⟨k, rfl⟩ : ∃ m, k = m + 3 := ⟨k - 3, by omega⟩
    rw [bits_Uvarint.l0, if_pos (by omega)]
    by_cases hil : i < b.length
    · obtain ⟨c, hc⟩ := nat_of (hb _ (List.getElem_mem hil)).1
      have hc2 : c < 256 := by have := (hb _ (List.getElem_mem hil)).2; omega
      have hr : rd b (i : Int) = (c : Int) := by rw [rd_lt hil, hc]
      rw [if_neg (by omega), hr, List.drop_eq_getElem_cons hil, List.map_cons, hc, Int.toNat_natCast]
      have hj : ∀ hit : Bool, hit = decide (i = 9 ∧ c > 1) → bits_Uvarint.j1 (k + 2) b (x : Int) (i : Int) hit = some (tri (uvN (d + 1) i x (c :: (b.drop (i + 1)).map Int.toNat))) := by
        intro hit hh
        rw [bits_Uvarint.j1, uvN]
        by_cases h9 : i = 9 ∧ c > 1
        · rw [if_pos h9, if_pos (by rw [hh]; exact decide_eq_true h9)]; rfl
        · have ha := acc hx hc2 (by omega) (fun h => by omega)
          have hst : Small (x + c % 128 * 2 ^ (7 * i)) (i + 1) := step_lt (c := c) hx
          rw [if_neg h9, if_neg (by rw [hh, decide_eq_false h9]; exact Bool.false_ne_true), if_pos (by omega), if_pos (by omega), if_pos (by rw [seven (by omega)]; omega), hr, ha]
          clear hx
          generalize x + c % 128 * 2 ^ (7 * i) = y at ha hst ⊢
          clear ha
          by_cases h128 : c < 128
          · have hw : wrap64 ((i : Int) + 1) = ((i + 1 : Nat) : Int) := by rw [wrap_in (by omega) (by omega)]; omega
            rw [if_pos h128, if_pos (by omega)]
            by_cases hi0 : i > 0
            · rw [if_pos (by omega)]
              by_cases hc0 : c = 0
              · rw [if_pos ⟨hi0, hc0⟩, hc0, bits_Uvarint.j2, if_pos (by rfl)]; rfl
              · have hcb : ((c : Int) == 0) = false := beq_eq_false_iff_ne.2 (by omega)
                rw [if_neg (fun h => hc0 h.2), hcb, bits_Uvarint.j2, if_neg Bool.false_ne_true, hw]; rfl
            · rw [if_neg (by omega), if_neg (fun h => hi0 h.1), bits_Uvarint.j2, if_neg Bool.false_ne_true, hw]; rfl
          · have hw : wrap64 ((i : Int) + 1) = ((i + 1 : Nat) : Int) := by rw [wrap_in (by omega) (by omega)]; omega
            rw [if_neg h128, if_neg (by omega), hw]
            exact ih (k + 1) (i + 1) y (by omega) (by omega) (by omega) (by omega) hst
      by_cases h9 : i = 9
      · rw [if_pos (by omega), if_pos (by omega), if_pos (by omega)]
        exact hj _ (by by_cases h1 : c > 1 <;> simp [h9, h1] <;> omega)
      · rw [if_neg (by omega)]
        exact hj _ (by simp [h9])
    · rw [if_pos (by omega), List.drop_eq_nil_of_le (by omega)]; rfl
theorem uv_read2 (b : List Int) (hb : By b) (hn : b.length ≤ 9223372036854775806) (d : Nat) : ∀ (k i x : Nat), i ≤ 10 → 10 - i = d → 2 * d + 2 < k → i ≤ b.length → Small x i →
    manometerref01_Uvarint.l0 k b (x : Int) (i : Int) = some (tri (uvN d i x ((b.drop i).map Int.toNat))) := by
  induction d with
  | zero =>
    intro k i x hi hd hk hl hx
    obtain ⟨k, rfl⟩ : ∃ m, k = m + 1 := ⟨k - 1, by omega⟩
    rw [manometerref01_Uvarint.l0, if_neg (by omega)]; rfl
  | succ d ih =>
    intro k i x hi hd hk hl hx
    obtain ⟨k, rfl⟩ : ∃ m, k = m + 3 := ⟨k - 3, by omega⟩
    rw [manometerref01_Uvarint.l0, if_pos (by omega)]
    by_cases hil : i < b.length
    · obtain ⟨c, hc⟩ := nat_of (hb _ (List.getElem_mem hil)).1
      have hc2 : c < 256 := by have := (hb _ (List.getElem_mem hil)).2; omega
      have hr : rd b (i : Int) = (c : Int) := by rw [rd_lt hil, hc]
      rw [if_neg (by omega), hr, List.drop_eq_getElem_cons hil, List.map_cons, hc, Int.toNat_natCast]
      have hj : ∀ hit : Bool, hit = decide (i = 9 ∧ c > 1) → manometerref01_Uvarint.j1 (k + 2) b (x : Int) (i : Int) (i : Int) hit = some (tri (uvN (d + 1) i x (c :: (b.drop (i + 1)).map Int.toNat))) := by
        intro hit hh
        rw [manometerref01_Uvarint.j1, uvN]
        by_cases h9 : i = 9 ∧ c > 1
        · rw [if_pos h9, if_pos (by rw [hh]; exact decide_eq_true h9)]; rfl
        · have ha := acc2 hx hc2 (by omega) (fun h => by omega)
          have hst : Small (x + c % 128 * 2 ^ (7 * i)) (i + 1) := step_lt (c := c) hx
          rw [if_neg h9, if_neg (by rw [hh, decide_eq_false h9]; exact Bool.false_ne_true), if_pos (by omega), if_pos (by omega), if_pos (by rw [seven (by omega)]; omega), hr, ha]
          clear hx
          generalize x + c % 128 * 2 ^ (7 * i) = y at ha hst ⊢
          clear ha
          by_cases h128 : c < 128
          · have hw : wrap64 ((i : Int) + 1) = ((i + 1 : Nat) : Int) := by rw [wrap_in (by omega) (by omega)]; omega
            rw [if_pos h128, if_pos (by omega)]
            by_cases hi0 : i > 0
            · rw [if_pos (by omega)]
              by_cases hc0 : c = 0
              · rw [if_pos ⟨hi0, hc0⟩, hc0, manometerref01_Uvarint.j2, if_pos (by rfl)]; rfl
              · have hcb : ((c : Int) == 0) = false := beq_eq_false_iff_ne.2 (by omega)
                rw [if_neg (fun h => hc0 h.2), hcb, manometerref01_Uvarint.j2, if_neg Bool.false_ne_true, hw]; rfl
            · rw [if_neg (by omega), if_neg (fun h => hi0 h.1), manometerref01_Uvarint.j2, if_neg Bool.false_ne_true, hw]; rfl
          · have hw : wrap64 ((i : Int) + 1) = ((i + 1 : Nat) : Int) := by rw [wrap_in (by omega) (by omega)]; omega
            rw [if_neg h128, if_neg (by omega), hw]
            exact ih (k + 1) (i + 1) y (by omega) (by omega) (by omega) (by omega) hst
      by_cases h9 : i = 9
      · rw [if_pos (by omega), if_pos (by omega), if_pos (by omega)]
        exact hj _ (by by_cases h1 : c > 1 <;> simp [h9, h1] <;> omega)
      · rw [if_neg (by omega)]
        exact hj _ (by simp [h9])
    · by_cases h10 : (i : Int) = (b.length : Int)
      · rw [if_pos h10, List.drop_eq_nil_of_le (by omega)]; rfl
      · omega
/-- The number that bytes begin with. -/
def uvo (b : List Int) : Nat × Nat × Nat := uvN 10 0 0 (b.map Int.toNat)
theorem uvarint {b : List Int} (hb : By b) (hn : b.length ≤ 9223372036854775806) {k : Nat} (hk : 30 ≤ k) : bits_Uvarint.f k b = some (tri (uvo b)) := by
  have := uv_read b hb hn 10 k 0 0 (by omega) (by omega) (by omega) (by omega) (show (0 : Nat) < 2 ^ (7 * 0) by decide)
  rwa [List.drop_zero] at this
theorem ref_uvarint {b : List Int} (hb : By b) (hn : b.length ≤ 9223372036854775806) {k : Nat} (hk : 30 ≤ k) : manometerref01_Uvarint.f k b = some (tri (uvo b)) := by
  have := uv_read2 b hb hn 10 k 0 0 (by omega) (by omega) (by omega) (by omega) (show (0 : Nat) < 2 ^ (7 * 0) by decide)
  rwa [List.drop_zero] at this
/-- What the number's bytes tell. -/
theorem uvN_bound : ∀ (f i x : Nat) (l : List Nat), (uvN f i x l).2.2 = 0 → (∃ j, (uvN f i x l).2.1 = i + j ∧ 1 ≤ j ∧ j ≤ l.length ∧ j ≤ f) ∨ False := by
  intro f
  induction f with
  | zero => intro i x l h; simp [uvN] at h
  | succ f ih =>
    intro i x l h
    cases l with
    | nil => simp [uvN] at h
    | cons c l =>
      rw [uvN] at h ⊢
      by_cases h1 : i = 9 ∧ c > 1
      · rw [if_pos h1] at h; simp at h
      · rw [if_neg h1] at h ⊢
        by_cases h2 : c < 128
        · rw [if_pos h2] at h ⊢
          by_cases h3 : i > 0 ∧ c = 0
          · rw [if_pos h3] at h; simp at h
          · rw [if_neg h3]; exact .inl ⟨1, rfl, by omega, by simp, by omega⟩
        · rw [if_neg h2] at h ⊢
          rcases ih (i + 1) _ l h with ⟨j, e1, e2, e3, e4⟩ | e
          · exact .inl ⟨j + 1, by rw [e1]; omega, by omega, by simp; omega, by omega⟩
          · exact .inr e
theorem uvo_bound {b : List Int} (h : (uvo b).2.2 = 0) : 1 ≤ (uvo b).2.1 ∧ (uvo b).2.1 ≤ b.length ∧ (uvo b).2.1 ≤ 10 := by
  rcases uvN_bound 10 0 0 (b.map Int.toNat) h with ⟨j, e1, e2, e3, e4⟩ | e
  · rw [List.length_map] at e3
    exact ⟨by unfold uvo; omega, by unfold uvo; omega, by unfold uvo; omega⟩
  · exact e.elim
/-- The number's bytes, read again. -/
theorem uvN_uv (f : Nat) : ∀ (i x n : Nat) (rest : List Nat), i + f = 9 → n < 2 ^ (64 - 7 * i) → (i = 0 ∨ 0 < n) → uvN (f + 1) i x ((uv f n).map Int.toNat ++ rest) = (x + n * 2 ^ (7 * i), i + (uv f n).length, 0) := by
  induction f with
  | zero =>
    intro i x n rest hi hn h0
    obtain rfl : i = 9 := by omega
    have hn2 : n < 2 := by simpa using hn
    have e : ((uv 0 n).map Int.toNat ++ rest) = n :: rest := by simp only [uv, List.map_cons, List.map_nil, List.cons_append, List.nil_append]; congr 1; omega
    rw [e, uvN, if_neg (by omega), if_pos (by omega), if_neg (by omega), show n % 128 = n by omega]
    rfl
  | succ f ih =>
    intro i x n rest hi hn h0
    rw [uv]
    by_cases h : n < 128
    · rw [if_pos h]
      have e : (([(n : Int)] : List Int).map Int.toNat ++ rest) = n :: rest := by simp
      rw [e, uvN, if_neg (by omega), if_pos h, if_neg (by omega), show n % 128 = n by omega]
      rfl
    · rw [if_neg h, List.map_cons, List.cons_append, Int.toNat_natCast, uvN, if_neg (by omega), if_neg (by omega), show (n % 128 + 128) % 128 = n % 128 by omega]
      have hp : 2 ^ (64 - 7 * i) = 128 * 2 ^ (64 - 7 * (i + 1)) := by
        rw [show 64 - 7 * i = (64 - 7 * (i + 1)) + 7 by omega, Nat.pow_add]; omega
      rw [ih (i + 1) _ (n / 128) rest (by omega) (by omega) (.inr (by omega))]
      have e2 : 2 ^ (7 * (i + 1)) = 128 * 2 ^ (7 * i) := by rw [show 7 * (i + 1) = 7 * i + 7 by omega, Nat.pow_add]; omega
      have e3 : n % 128 * 2 ^ (7 * i) + n / 128 * 2 ^ (7 * (i + 1)) = n * 2 ^ (7 * i) := by
        rw [e2, ← Nat.mul_assoc, ← Nat.add_mul]; congr 1; omega
      simp only [List.length_cons, Prod.mk.injEq, and_true]
      omega
theorem uvo_hd {n : Nat} (hn : n < 18446744073709551616) (rest : List Int) : uvo (hd n ++ rest) = (n, (hd n).length, 0) := by
  unfold uvo hd
  rw [List.map_append, uvN_uv 9 0 0 n _ (by omega) (by simpa using hn) (.inl rfl)]
  simp
theorem uvN_torn (f : Nat) : ∀ (i x n j : Nat), i + f = 9 → j < (uv f n).length → uvN (f + 1) i x (((uv f n).take j).map Int.toNat) = (0, 0, 6) := by
  induction f with
  | zero =>
    intro i x n j hi hj
    obtain rfl : j = 0 := by simp [uv] at hj; omega
    rfl
  | succ f ih =>
    intro i x n j hi hj
    cases j with
    | zero => rfl
    | succ j =>
      rw [uv] at hj ⊢
      by_cases h : n < 128
      · rw [if_pos h] at hj; simp at hj
      · rw [if_neg h] at hj ⊢
        rw [List.length_cons] at hj
        rw [List.take_succ_cons, List.map_cons, Int.toNat_natCast, uvN, if_neg (by omega), if_neg (by omega)]
        exact ih (i + 1) _ (n / 128) j (by omega) (by omega)
theorem uvo_torn {n j : Nat} (hj : j < (hd n).length) : uvo ((hd n).take j) = (0, 0, 6) := uvN_torn 9 0 0 n j (by omega) hj
end Go.Proofs.YtmppjcendcbamaaDoor.FF
