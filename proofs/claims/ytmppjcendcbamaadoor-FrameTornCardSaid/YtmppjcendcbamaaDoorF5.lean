/- Plain laws of frame, on: what Get gives. -/
import Derived.Test.YtmppjcendcbamaaDoorF4
import Derived.Test.YtmppjcendcbamaaDoorQ5
namespace Go.Proofs.YtmppjcendcbamaaDoor.FF
open Go.RowKit Go.Proofs.YtmppjcendcbamaaDoor.Q Go.Proofs.YtmppjcendcbamaaDoorW.PrintWords Go.Proofs.YtmppjcendcbamaaDoorW.PrintLast Go.Proofs.YtmppjcendcbamaaDoorW.PrintMore
set_option linter.unusedVariables false

/-- What Get gives, the number ahead being told. -/
def getA (b : List Int) (n j : Nat) : List Int × Nat × Nat :=
  if n > 1048576 then ([], 0, 3)
  else if b.length < j + n + 4 then ([], 0, 6)
  else if (b.take (j + n + 4)).drop (j + n) = lo4 (mk (mo 0 (b.take (j + n)))) then ((b.take (j + n)).drop j, j + n + 4, 0)
  else ([], 0, 20)
def getN (b : List Int) : List Int × Nat × Nat := if (uvo b).2.2 = 0 then getA b (uvo b).1 (uvo b).2.1 else ([], 0, (uvo b).2.2)
abbrev gi (r : List Int × Nat × Nat) : List Int × Int × Int := (r.1, (r.2.1 : Int), (r.2.2 : Int))
theorem or_add {a b i : Nat} (h : a < 2 ^ i) : a ||| b * 2 ^ i = a + b * 2 ^ i := by
  have := Nat.two_pow_add_eq_or_of_lt h b
  rw [Nat.or_comm, Nat.mul_comm, ← this, Nat.add_comm]
theorem got4 {c0 c1 c2 c3 : Nat} (h0 : c0 < 256) (h1 : c1 < 256) (h2 : c2 < 256) (h3 : c3 < 256) :
    Go.bits .or .u32 (Go.bits .or .u32 (Go.bits .or .u32 ((c0 : Int) % 4294967296) ((((c1 : Int) % 4294967296) * 256) % 4294967296)) ((((c2 : Int) % 4294967296) * 65536) % 4294967296)) ((((c3 : Int) % 4294967296) * 16777216) % 4294967296)
      = ((c0 + c1 * 256 + c2 * 65536 + c3 * 16777216 : Nat) : Int) := by
  rw [show (c0 : Int) % 4294967296 = (c0 : Int) by omega, show (((c1 : Int) % 4294967296) * 256) % 4294967296 = ((c1 * 256 : Nat) : Int) by omega, show (((c2 : Int) % 4294967296) * 65536) % 4294967296 = ((c2 * 65536 : Nat) : Int) by omega, show (((c3 : Int) % 4294967296) * 16777216) % 4294967296 = ((c3 * 16777216 : Nat) : Int) by omega]
  rw [u32_or_nat c0 (c1 * 256) (by omega) (by omega), show c0 ||| c1 * 256 = c0 + c1 * 256 from or_add (i := 8) h0]
  rw [u32_or_nat (c0 + c1 * 256) (c2 * 65536) (by omega) (by omega), show (c0 + c1 * 256) ||| c2 * 65536 = c0 + c1 * 256 + c2 * 65536 from or_add (i := 16) (by omega)]
  rw [u32_or_nat (c0 + c1 * 256 + c2 * 65536) (c3 * 16777216) (by omega) (by omega), show (c0 + c1 * 256 + c2 * 65536) ||| c3 * 16777216 = c0 + c1 * 256 + c2 * 65536 + c3 * 16777216 from or_add (i := 24) (by omega)]
theorem lo4_iff {m c0 c1 c2 c3 : Nat} (hm : m < 4294967296) (h0 : c0 < 256) (h1 : c1 < 256) (h2 : c2 < 256) (h3 : c3 < 256) :
    ([(c0 : Int), (c1 : Int), (c2 : Int), (c3 : Int)] : List Int) = lo4 m ↔ m = c0 + c1 * 256 + c2 * 65536 + c3 * 16777216 := by
  unfold lo4
  simp only [List.cons.injEq, and_true]
  omega
theorem four_cells (b : List Int) (p : Nat) (h : p + 4 ≤ b.length) : (b.take (p + 4)).drop p = [b[p], b[p + 1], b[p + 2], b[p + 3]] := by
  rw [List.drop_take, show p + 4 - p = 4 by omega, List.drop_eq_getElem_cons (by omega : p < b.length), List.drop_eq_getElem_cons (by omega : p + 1 < b.length), List.drop_eq_getElem_cons (by omega : p + 1 + 1 < b.length), List.drop_eq_getElem_cons (by omega : p + 1 + 1 + 1 < b.length)]
  rfl
theorem nat_cell {b : List Int} (hb : By b) {p : Nat} (h : p < b.length) : ∃ c : Nat, c < 256 ∧ b[p] = (c : Int) ∧ rd b (p : Int) = (c : Int) := by
  obtain ⟨c, hc⟩ := nat_of (hb _ (List.getElem_mem h)).1
  have := (hb _ (List.getElem_mem h)).2
  exact ⟨c, by omega, hc, by rw [rd_lt h, hc]⟩
theorem get {b : List Int} (hb : By b) (hn : b.length ≤ 1000000000) {k : Nat} (hk : 40 ≤ k) : frame_Get.f k b = some (gi (getN b)) := by
  unfold frame_Get.f
  rw [uvarint hb (by omega) (by omega), Option.bind_some]
  unfold getN
  have hbd := uvo_bound (b := b)
  generalize uvo b = r at *
  obtain ⟨n, j, e⟩ := r
  simp only [tri] at *
  by_cases he : e = 0
  · obtain ⟨b1, b2, b3⟩ := hbd he
    rw [if_pos he, if_pos (by omega)]
    unfold getA
    by_cases h3 : n > 1048576
    · rw [if_pos h3, if_pos (by omega)]; rfl
    · have w1 : wrap64 (n : Int) = (n : Int) := wrap_in (by omega) (by omega)
      have w2 : wrap64 ((j : Int) + (n : Int)) = ((j + n : Nat) : Int) := by rw [wrap_in (by omega) (by omega)]; omega
      have w3 : wrap64 (((j + n : Nat) : Int) + 4) = ((j + n + 4 : Nat) : Int) := by rw [wrap_in (by omega) (by omega)]; omega
      have w4 : wrap64 (((j + n : Nat) : Int) + 1) = ((j + n + 1 : Nat) : Int) := by rw [wrap_in (by omega) (by omega)]; omega
      have w5 : wrap64 (((j + n : Nat) : Int) + 2) = ((j + n + 2 : Nat) : Int) := by rw [wrap_in (by omega) (by omega)]; omega
      have w6 : wrap64 (((j + n : Nat) : Int) + 3) = ((j + n + 3 : Nat) : Int) := by rw [wrap_in (by omega) (by omega)]; omega
      rw [if_neg h3, if_neg (by omega), w1, w2, w3, w4, w5, w6]
      clear w1 w2 w3 w4 w5 w6
      obtain ⟨p, hp⟩ : ∃ p, p = j + n := ⟨_, rfl⟩
      rw [← hp]
      by_cases h6 : b.length < p + 4
      · rw [if_pos h6, if_pos (by omega)]; rfl
      · obtain ⟨c0, l0, g0, r0⟩ := nat_cell hb (p := p) (by omega)
        obtain ⟨c1, l1, g1, r1⟩ := nat_cell hb (p := p + 1) (by omega)
        obtain ⟨c2, l2, g2, r2⟩ := nat_cell hb (p := p + 2) (by omega)
        obtain ⟨c3, l3, g3, r3⟩ := nat_cell hb (p := p + 3) (by omega)
        rw [if_neg h6, if_neg (by omega), r0, r1, r2, r3, got4 l0 l1 l2 l3, four_cells b p (by omega), g0, g1, g2, g3]
        clear r0 r1 r2 r3 g0 g1 g2 g3
        have e1 : ([b.take j, (b.take p).drop j] : List (List Int)).flatten = b.take p := by
          have : b.take j = (b.take p).take j := by rw [List.take_take, Nat.min_eq_left (by omega)]
          rw [this]; simp
        have hq : ∀ q ∈ ([b.take j, (b.take p).drop j] : List (List Int)), By q := by
          intro q hq
          simp only [List.mem_cons, List.not_mem_nil, or_false] at hq
          rcases hq with rfl | rfl
          · exact hb.take _
          · exact (hb.take _).drop _
        have hm := mo_lt (s := 0) (by omega) (hb.take p)
        rw [if_pos (by omega), if_pos (by omega), if_pos (by omega), if_pos (by omega), if_pos (by omega), if_pos (by omega), if_pos (by omega), if_pos (by omega), if_pos (by omega), if_pos (by omega), if_pos (by omega), if_pos (by omega),
          Int.toNat_natCast, Int.toNat_natCast, sum hq (by simp) (by simp; omega), Option.bind_some, e1, mask hm, Option.bind_some]
        by_cases hs : mk (mo 0 (b.take p)) = c0 + c1 * 256 + c2 * 65536 + c3 * 16777216
        · rw [if_pos ((lo4_iff (mk_lt _) l0 l1 l2 l3).2 hs), if_pos (by rw [hs]), Option.bind_some, Option.bind_some, if_pos (by simp only [List.length_nil, List.length_drop, List.length_take]; omega)]
          rfl
        · rw [if_neg (fun h => hs ((lo4_iff (mk_lt _) l0 l1 l2 l3).1 h)), if_neg (fun h => hs (Int.ofNat_inj.1 h))]
          rfl
  · rw [if_neg he, if_neg (by omega)]; rfl
theorem ref_get {b : List Int} (hb : By b) (hn : b.length ≤ 1000000000) {k : Nat} (hk : 10 * b.length + 40 ≤ k) : manometerref02_Get.f k b = some (gi (getN b)) := by
  unfold manometerref02_Get.f
  rw [ref_uvarint hb (by omega) (by omega), Option.bind_some]
  unfold getN
  have hbd := uvo_bound (b := b)
  generalize uvo b = r at *
  obtain ⟨n, j, e⟩ := r
  simp only [tri] at *
  by_cases he : e = 0
  · obtain ⟨b1, b2, b3⟩ := hbd he
    rw [if_pos he, if_pos (by omega)]
    unfold getA
    by_cases h3 : n > 1048576
    · rw [if_pos h3, if_pos (by omega)]; rfl
    · have w1 : wrap64 (n : Int) = (n : Int) := wrap_in (by omega) (by omega)
      have w2 : wrap64 ((j : Int) + (n : Int)) = ((j + n : Nat) : Int) := by rw [wrap_in (by omega) (by omega)]; omega
      have w3 : wrap64 (((j + n : Nat) : Int) + 4) = ((j + n + 4 : Nat) : Int) := by rw [wrap_in (by omega) (by omega)]; omega
      rw [if_neg h3, if_neg (by omega), w1, w2, w3]
      clear w1 w2 w3
      obtain ⟨p, hp⟩ : ∃ p, p = j + n := ⟨_, rfl⟩
      rw [← hp]
      by_cases h6 : b.length < p + 4
      · rw [if_pos h6, if_pos (by omega)]; rfl
      · have hm := mo_lt (s := 0) (by omega) (hb.take p)
        have e1 : ([(b.take p).drop j] : List (List Int)).flatten = (b.take p).drop j := by simp
        have l1 : (b.take p).length = p := by rw [List.length_take]; omega
        have l2 : ((b.take (p + 4)).drop p).length = 4 := by rw [List.length_drop, List.length_take]; omega
        rw [if_neg h6, if_neg (by omega), if_pos (by omega), if_pos (by omega), if_pos (by omega), if_pos (by omega), Int.toNat_natCast, Int.toNat_natCast, Int.toNat_natCast, ref_sum (hb.take p) (by omega) (by omega), Option.bind_some, ref_mask, mask hm, Option.bind_some, manometerref02_low.f, lo4_eq, Option.bind_some, equal _ _ (by omega) (by omega), Option.bind_some]
        by_cases hs : (b.take (p + 4)).drop p = lo4 (mk (mo 0 (b.take p)))
        · rw [if_pos hs, decide_eq_true hs, if_pos rfl, if_pos (by omega), if_pos (by omega), join (by simp) (by rw [e1, List.length_drop, l1]; omega) (by simp; omega), Option.bind_some, e1]
          rfl
        · rw [if_neg hs, decide_eq_false hs, if_neg Bool.false_ne_true]
          rfl
  · rw [if_neg he, if_neg (by omega)]; rfl
theorem getN_len {b : List Int} (h : (getN b).2.2 = 0) : 5 ≤ (getN b).2.1 ∧ (getN b).2.1 ≤ b.length := by
  unfold getN at *
  by_cases he : (uvo b).2.2 = 0
  · have hbd := uvo_bound he
    rw [if_pos he] at *
    unfold getA at *
    split at h
    · simp at h
    · rename_i h1
      rw [if_neg h1]
      split at h
      · simp at h
      · rename_i h2
        rw [if_neg h2]
        split at h
        · rename_i h3
          rw [if_pos h3]
          exact ⟨by simp only; omega, by simp only; omega⟩
        · simp at h
  · rw [if_neg he] at h
    exact absurd h he
theorem getN_by {b : List Int} (hb : By b) : By (getN b).1 ∧ (getN b).1.length ≤ b.length := by
  unfold getN
  split
  · unfold getA
    split
    · exact ⟨By.nil, by simp⟩
    · split
      · exact ⟨By.nil, by simp⟩
      · split
        · exact ⟨(hb.take _).drop _, by simp only [List.length_drop, List.length_take]; omega⟩
        · exact ⟨By.nil, by simp⟩
  · exact ⟨By.nil, by simp⟩
end Go.Proofs.YtmppjcendcbamaaDoor.FF
