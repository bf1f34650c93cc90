/- The sum of a text by hand: the document's words are the program's. -/
import Derived.Test.YtibilnohnildcaaR3
import Derived.Lib.EndianBits
namespace Go.Proofs.Ytibilnohnildcaa.R
open Go.RowKit Go.Proofs.Ytibilnohnildcaa.Q Go.Proofs.YtibilnohnildcaaW.PrintWords Go.Proofs.YtibilnohnildcaaW.PrintLast Go.Proofs.YtibilnohnildcaaW.PrintMore
set_option linter.unusedVariables false
set_option linter.unusedSimpArgs false
theorem or_comm64 (x y : Int) : Go.bits .or .u64 x y = Go.bits .or .u64 y x := by
  unfold Go.bits
  simp only [BitVec.or_comm]
theorem wrapu {x : Int} (h0 : 0 ≤ x) (h1 : x < 18446744073709551616) : IntKind.u64.wrap x = x := by
  simp [IntKind.wrap, IntKind.bits, IntKind.signed]; omega
theorem or_byte {x b : Int} (hx0 : 0 ≤ x) (hx1 : x < 72057594037927936) (hb0 : 0 ≤ b) (hb1 : b < 256) : Go.bits .or .u64 (IntKind.u64.wrap (x * 256)) (IntKind.u64.wrap b) = x * 256 + b := by
  rw [wrapu (x := b) hb0 (by omega), wrapu (x := x * 256) (by omega) (by omega), or_comm64, u64_or8 b (x * 256) hb0 hb1 (by omega) (by omega) (by omega)]
  omega
def st1 (x b : Int) : Int := Go.bits .or .u64 (IntKind.u64.wrap (x * 256)) (IntKind.u64.wrap b)
def st2 (i : Int) (x b : Int) : Int := IntKind.u64.wrap (x + shl .u64 (IntKind.u64.wrap b) (IntKind.u64.wrap (wrap64 (8 * i))))
theorem st2_eq (i : Nat) (hi : i < 8) {x b : Int} (hx0 : 0 ≤ x) (hx1 : x < 256 ^ i) (hb0 : 0 ≤ b) (hb1 : b < 256) : st2 (i : Int) x b = x + b * 256 ^ i := by
  unfold st2
  rw [wrapu (x := b) hb0 (by omega)]
  have h : i = 0 ∨ i = 1 ∨ i = 2 ∨ i = 3 ∨ i = 4 ∨ i = 5 ∨ i = 6 ∨ i = 7 := by omega
  rcases h with rfl | rfl | rfl | rfl | rfl | rfl | rfl | rfl <;> simp [shl, wrap64, IntKind.wrap, IntKind.bits, IntKind.signed] at hx1 ⊢ <;> omega
theorem bytes8 {a b c d e f g i : Int} (h : ∀ x ∈ [a, b, c, d, e, f, g, i], 0 ≤ x ∧ x < 256) : lowT [a, b, c, d, e, f, g, i] = a + b * 256 + c * 65536 + d * 16777216 + e * 4294967296 + f * 1099511627776 + g * 281474976710656 + i * 72057594037927936 := by
  have ha := h a (by simp); have hb := h b (by simp); have hc := h c (by simp); have hd := h d (by simp); have he := h e (by simp); have hf := h f (by simp); have hg := h g (by simp); have hi := h i (by simp)
  have e1 : lowT [a, b, c, d, e, f, g, i] = st1 (st1 (st1 (st1 (st1 (st1 (st1 (st1 0 i) g) f) e) d) c) b) a := by
    unfold lowT; simp [hash_low.f, hash_low.l0, rd, wrap64, st1]
  rw [e1]
  have s1 : ∀ x y : Int, 0 ≤ x → x < 72057594037927936 → 0 ≤ y → y < 256 → st1 x y = x * 256 + y := fun x y h1 h2 h3 h4 => or_byte h1 h2 h3 h4
  rw [s1 0 i (by omega) (by omega) hi.1 hi.2, s1 _ g (by omega) (by omega) hg.1 hg.2, s1 _ f (by omega) (by omega) hf.1 hf.2, s1 _ e (by omega) (by omega) he.1 he.2, s1 _ d (by omega) (by omega) hd.1 hd.2, s1 _ c (by omega) (by omega) hc.1 hc.2, s1 _ b (by omega) (by omega) hb.1 hb.2, s1 _ a (by omega) (by omega) ha.1 ha.2]
  omega
theorem bytes4 {a b c d : Int} (h : ∀ x ∈ [a, b, c, d], 0 ≤ x ∧ x < 256) : lowT [a, b, c, d] = a + b * 256 + c * 65536 + d * 16777216 := by
  have ha := h a (by simp); have hb := h b (by simp); have hc := h c (by simp); have hd := h d (by simp)
  have e1 : lowT [a, b, c, d] = st1 (st1 (st1 (st1 0 d) c) b) a := by
    unfold lowT; simp [hash_low.f, hash_low.l0, rd, wrap64, st1]
  rw [e1]
  have s1 : ∀ x y : Int, 0 ≤ x → x < 72057594037927936 → 0 ≤ y → y < 256 → st1 x y = x * 256 + y := fun x y h1 h2 h3 h4 => or_byte h1 h2 h3 h4
  rw [s1 0 d (by omega) (by omega) hd.1 hd.2, s1 _ c (by omega) (by omega) hc.1 hc.2, s1 _ b (by omega) (by omega) hb.1 hb.2, s1 _ a (by omega) (by omega) ha.1 ha.2]
  omega
theorem rlow8 {l : List Int} (h : l.length = 8) (hb : ∀ x ∈ l, 0 ≤ x ∧ x < 256) : manometerref03_low.f 10 l = some (lowT l) := by
  match l, h, hb with
  | [a, b, c, d, e, f, g, i], _, h =>
    have ha := h a (by simp); have hb := h b (by simp); have hc := h c (by simp); have hd := h d (by simp); have he := h e (by simp); have hf := h f (by simp); have hg := h g (by simp); have hi := h i (by simp)
    have e1 : manometerref03_low.f 10 [a, b, c, d, e, f, g, i] = some (st2 7 (st2 6 (st2 5 (st2 4 (st2 3 (st2 2 (st2 1 (st2 0 0 a) b) c) d) e) f) g) i) := by
      simp [manometerref03_low.f, manometerref03_low.l0, rd, wrap64, st2, IntKind.wrap, IntKind.bits, IntKind.signed]
    rw [e1, bytes8 h]
    have t0 : ∀ x : Int, 0 ≤ x → x < 1 → st2 0 x a = x + a * 1 := fun x h1 h2 => by have := st2_eq 0 (by omega) (x := x) (b := a) h1 (by simpa using h2) ha.1 ha.2; simpa using this
    have t1 : ∀ x : Int, 0 ≤ x → x < 256 → st2 1 x b = x + b * 256 := fun x h1 h2 => by have := st2_eq 1 (by omega) (x := x) (b := b) h1 (by simpa using h2) hb.1 hb.2; simpa using this
    have t2 : ∀ x : Int, 0 ≤ x → x < 65536 → st2 2 x c = x + c * 65536 := fun x h1 h2 => by have := st2_eq 2 (by omega) (x := x) (b := c) h1 (by simpa using h2) hc.1 hc.2; simpa using this
    have t3 : ∀ x : Int, 0 ≤ x → x < 16777216 → st2 3 x d = x + d * 16777216 := fun x h1 h2 => by have := st2_eq 3 (by omega) (x := x) (b := d) h1 (by simpa using h2) hd.1 hd.2; simpa using this
    have t4 : ∀ x : Int, 0 ≤ x → x < 4294967296 → st2 4 x e = x + e * 4294967296 := fun x h1 h2 => by have := st2_eq 4 (by omega) (x := x) (b := e) h1 (by simpa using h2) he.1 he.2; simpa using this
    have t5 : ∀ x : Int, 0 ≤ x → x < 1099511627776 → st2 5 x f = x + f * 1099511627776 := fun x h1 h2 => by have := st2_eq 5 (by omega) (x := x) (b := f) h1 (by simpa using h2) hf.1 hf.2; simpa using this
    have t6 : ∀ x : Int, 0 ≤ x → x < 281474976710656 → st2 6 x g = x + g * 281474976710656 := fun x h1 h2 => by have := st2_eq 6 (by omega) (x := x) (b := g) h1 (by simpa using h2) hg.1 hg.2; simpa using this
    have t7 : ∀ x : Int, 0 ≤ x → x < 72057594037927936 → st2 7 x i = x + i * 72057594037927936 := fun x h1 h2 => by have := st2_eq 7 (by omega) (x := x) (b := i) h1 (by simpa using h2) hi.1 hi.2; simpa using this
    rw [t0 _ (by omega) (by omega), t1 _ (by omega) (by omega), t2 _ (by omega) (by omega), t3 _ (by omega) (by omega), t4 _ (by omega) (by omega), t5 _ (by omega) (by omega), t6 _ (by omega) (by omega), t7 _ (by omega) (by omega)]
    congr 1
    omega
theorem rlow4 {l : List Int} (h : l.length = 4) (hb : ∀ x ∈ l, 0 ≤ x ∧ x < 256) : manometerref03_low.f 10 l = some (lowT l) := by
  match l, h, hb with
  | [a, b, c, d], _, h =>
    have ha := h a (by simp); have hb := h b (by simp); have hc := h c (by simp); have hd := h d (by simp)
    have e1 : manometerref03_low.f 10 [a, b, c, d] = some (st2 3 (st2 2 (st2 1 (st2 0 0 a) b) c) d) := by
      simp [manometerref03_low.f, manometerref03_low.l0, rd, wrap64, st2, IntKind.wrap, IntKind.bits, IntKind.signed]
    rw [e1, bytes4 h]
    have t0 : ∀ x : Int, 0 ≤ x → x < 1 → st2 0 x a = x + a * 1 := fun x h1 h2 => by have := st2_eq 0 (by omega) (x := x) (b := a) h1 (by simpa using h2) ha.1 ha.2; simpa using this
    have t1 : ∀ x : Int, 0 ≤ x → x < 256 → st2 1 x b = x + b * 256 := fun x h1 h2 => by have := st2_eq 1 (by omega) (x := x) (b := b) h1 (by simpa using h2) hb.1 hb.2; simpa using this
    have t2 : ∀ x : Int, 0 ≤ x → x < 65536 → st2 2 x c = x + c * 65536 := fun x h1 h2 => by have := st2_eq 2 (by omega) (x := x) (b := c) h1 (by simpa using h2) hc.1 hc.2; simpa using this
    have t3 : ∀ x : Int, 0 ≤ x → x < 16777216 → st2 3 x d = x + d * 16777216 := fun x h1 h2 => by have := st2_eq 3 (by omega) (x := x) (b := d) h1 (by simpa using h2) hd.1 hd.2; simpa using this
    rw [t0 _ (by omega) (by omega), t1 _ (by omega) (by omega), t2 _ (by omega) (by omega), t3 _ (by omega) (by omega)]
    congr 1
    omega
theorem lrot1 (x : Int) : manometerref03_left.f x 1 = some (rotT x 1) := by unfold manometerref03_left.f; rw [if_pos (by decide), if_pos (by decide)]; rfl
theorem lrot7 (x : Int) : manometerref03_left.f x 7 = some (rotT x 7) := by unfold manometerref03_left.f; rw [if_pos (by decide), if_pos (by decide)]; rfl
theorem lrot11 (x : Int) : manometerref03_left.f x 11 = some (rotT x 11) := by unfold manometerref03_left.f; rw [if_pos (by decide), if_pos (by decide)]; rfl
theorem lrot12 (x : Int) : manometerref03_left.f x 12 = some (rotT x 12) := by unfold manometerref03_left.f; rw [if_pos (by decide), if_pos (by decide)]; rfl
theorem lrot18 (x : Int) : manometerref03_left.f x 18 = some (rotT x 18) := by unfold manometerref03_left.f; rw [if_pos (by decide), if_pos (by decide)]; rfl
theorem lrot23 (x : Int) : manometerref03_left.f x 23 = some (rotT x 23) := by unfold manometerref03_left.f; rw [if_pos (by decide), if_pos (by decide)]; rfl
theorem lrot27 (x : Int) : manometerref03_left.f x 27 = some (rotT x 27) := by unfold manometerref03_left.f; rw [if_pos (by decide), if_pos (by decide)]; rfl
theorem lrot31 (x : Int) : manometerref03_left.f x 31 = some (rotT x 31) := by unfold manometerref03_left.f; rw [if_pos (by decide), if_pos (by decide)]; rfl
theorem lrnd_f (a x : Int) : manometerref03_round.f a x = some (rndT a x) := by unfold manometerref03_round.f; rw [lrot31]; rfl
theorem lmrg_f (h a : Int) : manometerref03_merge.f h a = some (mrgT h a) := by unfold manometerref03_merge.f; rw [lrnd_f]; rfl
/-- A row of bytes. -/
def Bytes (l : List Int) : Prop := ∀ x ∈ l, 0 ≤ x ∧ x < 256
theorem Bytes.take {l : List Int} (h : Bytes l) (n : Nat) : Bytes (l.take n) := fun x hx => h x (List.mem_of_mem_take hx)
theorem Bytes.drop {l : List Int} (h : Bytes l) (n : Nat) : Bytes (l.drop n) := fun x hx => h x (List.mem_of_mem_drop hx)
section
variable {w : World} {A : Option Addr} {c : Nat} {l : List Int}
theorem rlow8_calls (hC : (Kd.int .u8).C w A l.length l) (hc : l.length ≤ c) (hb : Bytes l) (h : l.length = 8) : Calls Try.prog 45 #[.slice A 8 c] w fun e w' => e = .returned (.int .u64 (lowT l)) ∧ Drawn0 w w' := h ▸ manometerref03_low.calls 10 A c l (lowT l) w hC hc (rlow8 h hb)
theorem rlow4_calls (hC : (Kd.int .u8).C w A l.length l) (hc : l.length ≤ c) (hb : Bytes l) (h : l.length = 4) : Calls Try.prog 45 #[.slice A 4 c] w fun e w' => e = .returned (.int .u64 (lowT l)) ∧ Drawn0 w w' := h ▸ manometerref03_low.calls 10 A c l (lowT l) w hC hc (rlow4 h hb)
end
end Go.Proofs.Ytibilnohnildcaa.R
