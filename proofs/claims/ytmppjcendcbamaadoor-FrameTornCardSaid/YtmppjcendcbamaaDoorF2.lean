/- Plain laws of frame, on: joining, the numbers ahead, putting. -/
import Derived.Test.YtmppjcendcbamaaDoorF1
import Derived.Test.YtmppjcendcbamaaDoorE4
namespace Go.Proofs.YtmppjcendcbamaaDoor.FF
open Go.RowKit Go.Proofs.YtmppjcendcbamaaDoor.Q Go.Proofs.YtmppjcendcbamaaDoorW.PrintWords Go.Proofs.YtmppjcendcbamaaDoorW.PrintLast Go.Proofs.YtmppjcendcbamaaDoorW.PrintMore
set_option linter.unusedVariables false

theorem live (k : Nat) (h : 40 ≤ k) : manometerlaw02_live.f k = some true := by
  have h0 : manometerlaw02_live.f 40 = some true := by kernel_rfl
  obtain ⟨n, rfl⟩ : ∃ n, k = 40 + n := ⟨k - 40, by omega⟩
  clear h
  induction n with
  | zero => exact h0
  | succ n ih => exact manometerlaw02_live.mono _ _ ih
theorem join_loop (parts : List (List Int)) (hn : parts.length ≤ 9223372036854775806) (hs : parts.flatten.length < 140737488355328) (d : Nat) :
    ∀ (k i : Nat), i ≤ parts.length → parts.length - i = d → d < k → manometerref01_Join.l0 k (parts.take i).flatten parts (parts.length : Int) (i : Int) = some parts.flatten := by
  induction d with
  | zero =>
    intro k i hi hd hk
    obtain ⟨k, rfl⟩ : ∃ m, k = m + 1 := ⟨k - 1, by omega⟩
    rw [manometerref01_Join.l0, if_neg (by omega), List.take_of_length_le (by omega)]
  | succ d ih =>
    intro k i hi hd hk
    obtain ⟨k, rfl⟩ : ∃ m, k = m + 1 := ⟨k - 1, by omega⟩
    have hil : i < parts.length := by omega
    have hrd : rd_L2 parts (i : Int) = parts[i] := by
      show parts.getD i [] = _
      simp [List.getD, hil]
    have e : (parts.take i).flatten ++ parts[i] = (parts.take (i + 1)).flatten := by
      rw [List.take_succ_eq_append_getElem hil, List.flatten_append]; simp
    have hle : (parts.take (i + 1)).flatten.length ≤ parts.flatten.length := by
      have := congrArg (fun l => (List.flatten l).length) (List.take_append_drop (i + 1) parts)
      simp only [List.flatten_append, List.length_append] at this
      omega
    have hlen : (parts.take i).flatten.length + parts[i].length < 140737488355328 := by
      rw [← List.length_append, e]; omega
    rw [manometerref01_Join.l0, if_pos (by omega), if_pos (by omega), if_pos (by omega), hrd, if_pos hlen, e, show wrap64 ((i : Int) + 1) = ((i + 1 : Nat) : Int) by rw [wrap_in (by omega) (by omega)]; omega]
    exact ih k (i + 1) (by omega) (by omega) (by omega)
theorem join {parts : List (List Int)} (hn : parts.length ≤ 9223372036854775806) (hs : parts.flatten.length < 140737488355328) {k : Nat} (hk : parts.length < k) : manometerref01_Join.f k parts = some parts.flatten := by
  have := join_loop parts hn hs parts.length k 0 (by omega) (by omega) hk
  rwa [List.take_zero, List.flatten_nil] at this

theorem equal_loop (a b : List Int) (he : a.length = b.length) (hn : a.length ≤ 9223372036854775806) (d : Nat) :
    ∀ (k i : Nat), i ≤ a.length → a.length - i = d → d < k → manometerref01_Equal.l0 k a b (a.length : Int) (i : Int) = some (decide (a.drop i = b.drop i)) := by
  induction d with
  | zero =>
    intro k i hi hd hk
    obtain ⟨k, rfl⟩ : ∃ m, k = m + 1 := ⟨k - 1, by omega⟩
    rw [manometerref01_Equal.l0, if_neg (by omega), List.drop_eq_nil_of_le (by omega), List.drop_eq_nil_of_le (by omega)]; simp
  | succ d ih =>
    intro k i hi hd hk
    obtain ⟨k, rfl⟩ : ∃ m, k = m + 1 := ⟨k - 1, by omega⟩
    have hil : i < a.length := by omega
    have hib : i < b.length := by omega
    rw [manometerref01_Equal.l0, if_pos (by omega), if_pos (by omega), if_pos (by omega), if_pos (by omega), rd_lt hil, rd_lt hib, List.drop_eq_getElem_cons (l := a) hil, List.drop_eq_getElem_cons (l := b) hib]
    by_cases hc : a[i] = b[i]
    · rw [if_pos hc, show wrap64 ((i : Int) + 1) = ((i + 1 : Nat) : Int) by rw [wrap_in (by omega) (by omega)]; omega, ih k (i + 1) (by omega) (by omega) (by omega), hc]
      congr 1; simp only [List.cons.injEq, true_and]
    · rw [if_neg hc, decide_eq_false (by rw [List.cons.injEq]; exact fun h => hc h.1)]
theorem equal (a b : List Int) (hn : a.length ≤ 9223372036854775806) {k : Nat} (hk : a.length < k) : manometerref01_Equal.f k a b = some (decide (a = b)) := by
  unfold manometerref01_Equal.f
  by_cases he : a.length = b.length
  · rw [if_pos (by omega)]
    have := equal_loop a b he hn a.length k 0 (by omega) (by omega) hk
    rwa [List.drop_zero, List.drop_zero] at this
  · rw [if_neg (by omega)]
    have : a ≠ b := fun h => he (by rw [h])
    simp [this]
theorem equal_self (a : List Int) (hn : a.length ≤ 9223372036854775806) {k : Nat} (hk : a.length < k) : manometerref01_Equal.f k a a = some true := by
  rw [equal a a hn hk]; simp

/-- A number in few bytes. -/
def uv : Nat → Nat → List Int
  | 0, n => [(n % 256 : Nat)]
  | f + 1, n => if n < 128 then [(n : Int)] else ((n % 128 + 128 : Nat) : Int) :: uv f (n / 128)
theorem or_128 (n : Nat) : Go.bits .or .u8 ((n : Int) % 256) 128 = ((n % 128 + 128 : Nat) : Int) := by
  have h := u8_or_nat (n % 256) 128 (by omega) (by omega)
  rw [show ((n : Int) % 256) = ((n % 256 : Nat) : Int) by omega]
  refine h.trans ?_
  have : ∀ m, m < 256 → m ||| 128 = m % 128 + 128 := by decide +kernel
  rw [this _ (by omega)]
  omega
theorem uv_put (f : Nat) : ∀ (n k : Nat) (x : List Int), n < 128 ^ (f + 1) → f < k → x.length + f + 1 < 140737488355328 → bits_PutUvarint.l0 k (n : Int) x = some (x ++ uv f n) := by
  induction f with
  | zero =>
    intro n k x hn hk hx
    obtain ⟨k, rfl⟩ : ∃ m, k = m + 1 := ⟨k - 1, by omega⟩
    have hn1 : n < 128 := by simpa using hn
    clear hn
    have hx1 : x.length < 140737488355328 := by omega
    rw [bits_PutUvarint.l0, if_neg (by omega), if_pos hx1, uv, show ((n : Int) % 256) = ((n % 256 : Nat) : Int) by omega]
  | succ f ih =>
    intro n k x hn hk hx
    obtain ⟨k, rfl⟩ : ∃ m, k = m + 1 := ⟨k - 1, by omega⟩
    rw [bits_PutUvarint.l0, uv]
    by_cases h : n < 128
    · rw [if_neg (by omega), if_pos (by omega), if_pos h, show ((n : Int) % 256) = (n : Int) by omega]
    · have hq : n / 128 < 128 ^ (f + 1) := by rw [Nat.div_lt_iff_lt_mul (by decide), ← Nat.pow_succ]; exact hn
      rw [if_pos (by omega), if_pos (by omega), if_neg h, or_128, show (n : Int) / 128 = ((n / 128 : Nat) : Int) by omega, ih (n / 128) k _ hq (by omega) (by simp only [List.length_append, List.length_cons, List.length_nil]; omega), List.append_assoc]
      rfl
theorem uv_ref (f : Nat) : ∀ (n k : Nat) (x : List Int), n < 128 ^ (f + 1) → n < 18446744073709551616 → f < k → x.length + f + 1 < 140737488355328 → manometerref01_PutUvarint.l0 k (n : Int) x = some (x ++ uv f n) := by
  induction f with
  | zero =>
    intro n k x hn hn2 hk hx
    obtain ⟨k, rfl⟩ : ∃ m, k = m + 1 := ⟨k - 1, by omega⟩
    have hn1 : n < 128 := by simpa using hn
    clear hn
    have hx1 : x.length < 140737488355328 := by omega
    rw [manometerref01_PutUvarint.l0, if_neg (by omega), if_pos hx1, uv, show ((n : Int) % 256) = ((n % 256 : Nat) : Int) by omega]
  | succ f ih =>
    intro n k x hn hn2 hk hx
    obtain ⟨k, rfl⟩ : ∃ m, k = m + 1 := ⟨k - 1, by omega⟩
    rw [manometerref01_PutUvarint.l0, uv]
    by_cases h : n < 128
    · rw [if_neg (by omega), if_pos (by omega), if_pos h, show ((n : Int) % 256) = (n : Int) by omega]
    · have hq : n / 128 < 128 ^ (f + 1) := by rw [Nat.div_lt_iff_lt_mul (by decide), ← Nat.pow_succ]; exact hn
      have e1 : Int.tmod (n : Int) 128 = ((n % 128 : Nat) : Int) := (Int.ofNat_tmod n 128).symm
      have e2 : Int.tdiv (n : Int) 128 = ((n / 128 : Nat) : Int) := (Int.ofNat_tdiv n 128).symm
      have e3 : IntKind.u64.wrap ((n / 128 : Nat) : Int) = ((n / 128 : Nat) : Int) := by rw [IntKind.wrap_u64]; omega
      rw [if_pos (by omega), if_pos (by omega), if_neg h, e1, e2, e3, show (((n % 128 : Nat) : Int) + 128) % 256 = ((n % 128 + 128 : Nat) : Int) by omega, ih (n / 128) k _ hq (by omega) (by omega) (by simp only [List.length_append, List.length_cons, List.length_nil]; omega), List.append_assoc]
      rfl
theorem uv_by (f : Nat) : ∀ n, By (uv f n) := by
  induction f with
  | zero => intro n c hc; rw [uv, List.mem_singleton] at hc; subst hc; omega
  | succ f ih =>
    intro n c hc
    rw [uv] at hc
    split at hc
    · rw [List.mem_singleton] at hc; subst hc; omega
    · rcases List.mem_cons.1 hc with e | e
      · subst e; omega
      · exact ih _ c e
theorem uv_len (f : Nat) : ∀ n, 1 ≤ (uv f n).length ∧ (uv f n).length ≤ f + 1 := by
  induction f with
  | zero => intro n; simp [uv]
  | succ f ih =>
    intro n
    rw [uv]
    split
    · simp
    · have := ih (n / 128); simp only [List.length_cons]; omega
/-- The number ahead of a frame's bytes. -/
def hd (n : Nat) : List Int := uv 9 n
theorem hd_put {n : Nat} (hn : n < 18446744073709551616) {k : Nat} (hk : 10 ≤ k) : bits_PutUvarint.f k (n : Int) = some (hd n) := by
  unfold bits_PutUvarint.f
  rw [if_pos (by decide), uv_put 9 n k [] (Nat.lt_of_lt_of_le hn (by decide)) (by omega) (by simp)]
  rfl
theorem hd_ref {n : Nat} (hn : n < 18446744073709551616) {k : Nat} (hk : 10 ≤ k) : manometerref01_PutUvarint.f k (n : Int) = some (hd n) := by
  unfold manometerref01_PutUvarint.f
  rw [uv_ref 9 n k [] (Nat.lt_of_lt_of_le hn (by decide)) hn (by omega) (by simp)]
  rfl
theorem hd_by (n : Nat) : By (hd n) := uv_by 9 n
theorem hd_len (n : Nat) : 1 ≤ (hd n).length ∧ (hd n).length ≤ 10 := uv_len 9 n

/-- A masked sum. -/
def mk (s : Nat) : Nat := ((s / 32768 ||| (s * 131072) % 4294967296) + 2726488792) % 4294967296
theorem mk_lt (s : Nat) : mk s < 4294967296 := Nat.mod_lt _ (by decide)
theorem mask {s : Nat} (hs : s < 4294967296) : frame_Mask.f (s : Int) = some (mk s : Int) := by
  unfold frame_Mask.f mk
  have h := u32_or_nat (s / 32768) ((s * 131072) % 4294967296) (by omega) (by omega)
  rw [show (s : Int) / 32768 = ((s / 32768 : Nat) : Int) by omega, show ((s : Int) * 131072) % 4294967296 = ((s * 131072 % 4294967296 : Nat) : Int) by omega, h]
  congr 1
theorem ref_mask (a : Int) : manometerref02_Mask.f a = frame_Mask.f a := rfl
/-- The four bytes of a number, the lowest one first. -/
def lo4 (m : Nat) : List Int := [((m % 256 : Nat) : Int), ((m / 256 % 256 : Nat) : Int), ((m / 65536 % 256 : Nat) : Int), ((m / 16777216 % 256 : Nat) : Int)]
theorem lo4_by (m : Nat) : By (lo4 m) := by
  intro c hc
  simp only [lo4, List.mem_cons, List.not_mem_nil, or_false] at hc
  rcases hc with rfl | rfl | rfl | rfl <;> omega
theorem lo4_len (m : Nat) : (lo4 m).length = 4 := rfl
theorem lo4_eq (m : Nat) : ([(m : Int) % 256, ((m : Int) / 256) % 256, ((m : Int) / 65536) % 256, ((m : Int) / 16777216) % 256] : List Int) = lo4 m := by
  unfold lo4
  simp
/-- A frame of bytes. -/
def fr (b : List Int) : List Int := hd b.length ++ b ++ lo4 (mk (mo 0 (hd b.length ++ b)))
theorem fr_by {b : List Int} (hb : By b) : By (fr b) := ((hd_by _).append hb).append (lo4_by _)
theorem fr_len (b : List Int) : (fr b).length = (hd b.length).length + b.length + 4 := by simp only [fr, List.length_append, lo4_len]
theorem put {b : List Int} (hb : By b) (hn : b.length ≤ 1048576) {k : Nat} (hk : 20 ≤ k) : frame_Put.f k b = some (fr b, 0) := by
  have hh := hd_len b.length
  have hby : By (hd b.length ++ b) := (hd_by _).append hb
  have hw : IntKind.u64.wrap (b.length : Int) = (b.length : Int) := by rw [IntKind.wrap_u64]; omega
  unfold frame_Put.f
  rw [if_neg (by omega), hw, hd_put (by omega) (by omega), Option.bind_some, sum (parts := [hd b.length ++ b]) (by intro p hp; rw [List.mem_singleton] at hp; rw [hp]; exact hby) (by simp) (by simp; omega), Option.bind_some,
    show [hd b.length ++ b].flatten = hd b.length ++ b by simp, mask (mo_lt (by omega) hby), Option.bind_some, frame_tail.f, lo4_eq, Option.bind_some, if_pos (by simp only [List.length_append, lo4_len]; omega), Option.bind_some, if_pos (by omega)]
  rfl
theorem put_long {b : List Int} (hn : ¬ b.length ≤ 1048576) (k : Nat) : frame_Put.f k b = some ([], 3) := by
  unfold frame_Put.f; rw [if_pos (by omega)]
theorem ref_put {b : List Int} (hb : By b) (hn : b.length ≤ 1048576) {k : Nat} (hk : 10 * b.length + 200 ≤ k) : manometerref02_Put.f k b = some (fr b, 0) := by
  have hh := hd_len b.length
  have hby : By (hd b.length ++ b) := (hd_by _).append hb
  have hw : IntKind.u64.wrap (b.length : Int) = (b.length : Int) := by rw [IntKind.wrap_u64]; omega
  have e1 : ([hd b.length, b] : List (List Int)).flatten = hd b.length ++ b := by simp
  have e2 : ([hd b.length ++ b, lo4 (mk (mo 0 (hd b.length ++ b)))] : List (List Int)).flatten = fr b := by simp [fr]
  unfold manometerref02_Put.f
  rw [if_neg (by omega), hw, hd_ref (by omega) (by omega), Option.bind_some, join (by simp) (by rw [e1]; simp only [List.length_append]; omega) (by simp; omega), Option.bind_some, e1, ref_sum hby (by simp only [List.length_append]; omega) (by simp only [List.length_append]; omega), Option.bind_some, ref_mask, mask (mo_lt (by omega) hby), Option.bind_some, manometerref02_low.f, lo4_eq, Option.bind_some,
    join (by simp) (by rw [e2, fr_len]; omega) (by simp; omega), Option.bind_some, e2]
theorem ref_put_long {b : List Int} (hn : ¬ b.length ≤ 1048576) (k : Nat) : manometerref02_Put.f k b = some ([], 3) := by
  unfold manometerref02_Put.f; rw [if_pos (by omega)]
theorem size {n : Nat} (hn : n ≤ 1048576) {k : Nat} (hk : 20 ≤ k) : frame_Size.f k (n : Int) = some (((hd n).length + n + 4 : Nat) : Int) := by
  obtain ⟨k, rfl⟩ : ∃ m, k = m + 1 := ⟨k - 1, by omega⟩
  have hh := hd_len n
  have hw : IntKind.u64.wrap (n : Int) = (n : Int) := by rw [IntKind.wrap_u64]; omega
  unfold frame_Size.f
  rw [if_neg (by omega), decide_eq_false (by omega), frame_Size.j0, if_neg Bool.false_ne_true, hw, hd_put (by omega) (by omega), Option.bind_some, show wrap64 (((hd n).length : Int) + (n : Int)) = (((hd n).length + n : Nat) : Int) by rw [wrap_in (by omega) (by omega)]; omega, wrap_in (by omega) (by omega)]
  congr 1
theorem size_bad {n : Int} (hn : ¬ (0 ≤ n ∧ n ≤ 1048576)) {k : Nat} (hk : 1 ≤ k) : frame_Size.f k n = some 0 := by
  obtain ⟨k, rfl⟩ : ∃ m, k = m + 1 := ⟨k - 1, by omega⟩
  unfold frame_Size.f
  by_cases h : n < 0
  · rw [if_pos h, frame_Size.j0, if_pos rfl]
  · rw [if_neg h, decide_eq_true (by omega), frame_Size.j0, if_pos rfl]
end Go.Proofs.YtmppjcendcbamaaDoor.FF
