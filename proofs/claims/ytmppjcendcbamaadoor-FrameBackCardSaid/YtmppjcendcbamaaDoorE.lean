import Derived.Test.YtmppjcendcbamaaDoorG
import Derived.Test.YtmppjcendcbamaaDoorQ0
import Derived.Lib.Hide
import Derived.Laws.BitsAllLaws
namespace Go.Proofs.YtmppjcendcbamaaDoor.Q
open Go.RowKit Go.Proofs.YtmppjcendcbamaaDoorW.PrintWords Go.Proofs.YtmppjcendcbamaaDoorW.PrintLast Go.Proofs.YtmppjcendcbamaaDoorW.PrintMore
set_option linter.unusedVariables false
set_option linter.unusedSimpArgs false

theorem ret_int {k : IntKind} {a b : Int} (h : a = b) : Ending.returned (.int k a) = .returned (.int k b) := by rw [h]
/-- All ones. -/
def ones : Nat := 4294967295
theorem ones_eq : ones = 4294967295 := rfl
/-- Four bits of a sum, and a byte more. -/
def st4 (s : Nat) : Nat := (s / 16) ^^^ stepsN.getD (s % 16) 0
def stB (s c : Nat) : Nat := st4 (st4 (s ^^^ c))
/-- A sum goes on over bytes. -/
def moreN (s : Nat) (l : List Nat) : Nat := (l.foldl stB (s ^^^ ones)) ^^^ ones
def frame_More.f (a0 : Int) (l1 : List Int) : Option Int := if (0 ≤ a0 ∧ a0 < 4294967296) ∧ (∀ c ∈ l1, 0 ≤ c ∧ c < 256) then some (moreN a0.toNat (l1.map Int.toNat) : Int) else none

theorem un_xor (s : Nat) (hs : s < 4294967296) : Op.unary .xor (.int .u32 (s : Int)) = pure (.int .u32 ((s ^^^ ones : Nat) : Int)) := by
  show (pure (Value.int .u32 (IntKind.u32.wrap ((BitVec.ofInt 32 (4294967295 : Int)) ^^^ (BitVec.ofInt 32 (s : Int))).toNat)) : Sem Value) = _
  have h1 : (BitVec.ofInt 32 (4294967295 : Int)).toNat = 4294967295 := ofInt_u32 4294967295 (by decide)
  rw [BitVec.toNat_xor, h1, ofInt_u32 s hs, IntKind.wrap_u32']
  have h2 : 4294967295 ^^^ s < 4294967296 := Nat.xor_lt_two_pow (n := 32) (by decide) hs
  have h3 : s ^^^ ones = 4294967295 ^^^ s := Nat.xor_comm _ _
  rw [h3]
  congr 2
  omega
theorem tab_lt : ∀ i, i < 16 → stepsN.getD i 0 < 4294967296 := by decide
theorem xor_lt {a b : Nat} (ha : a < 4294967296) (hb : b < 4294967296) : a ^^^ b < 4294967296 := Nat.xor_lt_two_pow (n := 32) ha hb
theorem st4_lt {s : Nat} (h : s < 4294967296) : st4 s < 4294967296 := xor_lt (by omega) (tab_lt _ (by omega))
theorem stB_lt {s c : Nat} (h : s < 4294967296) (hc : c < 256) : stB s c < 4294967296 := st4_lt (st4_lt (xor_lt h (by omega)))
/-- What four bits come to, in the walk's words. -/
theorem four (s : Nat) (hs : s < 4294967296) : ∃ i t b : Nat, i < 16 ∧ Go.bits .and .u32 (s : Int) 15 = (i : Int) ∧ t = stepsN.getD i 0 ∧ Go.bits .xor .u32 ((s : Int) / 16) (t : Int) = (b : Int) ∧ b = st4 s ∧ b < 4294967296 := by
  refine ⟨s % 16, stepsN.getD (s % 16) 0, st4 s, by omega, ?_, rfl, ?_, rfl, st4_lt hs⟩
  · have h := u32_and_nat s 15 hs (by decide)
    rw [show s &&& 15 = s % 16 from Nat.and_two_pow_sub_one_eq_mod s 4] at h
    exact h
  · have h := u32_xor_nat (s / 16) (stepsN.getD (s % 16) 0) (by omega) (tab_lt _ (by omega))
    have e : ((s / 16 : Nat) : Int) = (s : Int) / 16 := by omega
    rw [e] at h
    exact h
theorem fold_lt (l : List Nat) : ∀ (s : Nat), s < 4294967296 → (∀ c ∈ l, c < 256) → l.foldl stB s < 4294967296 := by
  induction l with
  | nil => intro s h _; exact h
  | cons c l ih => intro s h hc; exact ih _ (stB_lt h (hc c List.mem_cons_self)) (fun x hx => hc x (List.mem_cons_of_mem _ hx))

set_option maxHeartbeats 4000000 in
set_option maxRecDepth 100000 in
theorem frame_More.calls (a0 : Int) (A1 : Option Addr) (c1 : Nat) (l1 : List Int) (r : Int) (w : World) (hGlob : Glob w) (hr1 : Kd.C (Kd.int .u8) w A1 l1.length l1) (hc1 : l1.length ≤ c1) (h : frame_More.f a0 l1 = some r) :
    Calls Tryd.prog 22 #[.int .u32 a0, .slice A1 l1.length c1] w fun e w' => e = .returned (.int .u32 r) ∧ Below w.heap.size w w' := by
  unfold frame_More.f at h
  by_cases hh : (0 ≤ a0 ∧ a0 < 4294967296) ∧ (∀ c ∈ l1, 0 ≤ c ∧ c < 256)
  · rw [if_pos hh] at h
    obtain rfl := Option.some.inj h
    clear h
    obtain ⟨⟨h0, h1⟩, hb⟩ := hh
    obtain ⟨s, rfl⟩ := Int.eq_ofNat_of_zero_le h0
    rw [Int.toNat_natCast]
    have hlen : l1.length ≤ 9223372036854775807 := by
      have := hr1.2.1
      exact this
    have HR := Aside0.mk hr1
    have HGl := Aside0.mk hGlob
    have HBy := Aside0.mk hb
    have HB := Aside0.mk (Below.refl w.heap.size w)
    clear hr1 hGlob hb h0
    have hs : s < 4294967296 := by omega
    obtain ⟨n0, hn0⟩ : ∃ n, n = s ^^^ ones := ⟨_, rfl⟩
    have en0 : Op.unary .xor (.int .u32 (s : Int)) = pure (.int .u32 (n0 : Int)) := by rw [hn0]; exact un_xor s hs
    have HN0 := Lib.hid hn0
    clear hn0
    go_enter Tryd.func22, Tryd.ntmps22
    go_wp2
    clear en0
    have hn0 : n0 < 4294967296 := by rw [HN0.out]; exact xor_lt hs (by decide)
    have HS0 := Aside0.mk hn0
    clear hn0 hs h1
    obtain ⟨L, hL⟩ : ∃ L : List Nat, L = l1.map Int.toNat := ⟨_, rfl⟩
    have HL := Aside0.mk hL
    clear hL
    go_loopw [0, 11] (fun v0 v11 w' => ∃ n a : Nat, n ≤ l1.length ∧ v11 = .int .i64 n ∧ v0 = .int .u32 a ∧ Aside0 (a < 4294967296) ∧ Aside0 (a = (L.take n).foldl stB n0) ∧ Aside0 (Below w.heap.size w w')) (fun _ v11 _ => l1.length - (intOf v11).toNat)
    case atStart => exact ⟨0, n0, Nat.zero_le _, rfl, rfl, HS0, ⟨rfl⟩, HB⟩
    case round =>
      obtain ⟨n, a, hn, rfl, rfl, HA, HF, HB1⟩ := hrel
      by_cases hlt : n < l1.length
      · have hget : ∃ c : Nat, c < 256 ∧ l1.getD n 0 = (c : Int) ∧ L.take (n + 1) = L.take n ++ [c] := by
          have hm : l1[n] ∈ l1 := List.getElem_mem hlt
          have hcb := HBy.out _ hm
          obtain ⟨c, hc⟩ := Int.eq_ofNat_of_zero_le hcb.1
          refine ⟨c, by omega, by rw [List.getD_eq_getElem?_getD, List.getElem?_eq_getElem hlt]; exact hc, ?_⟩
          have hl : n < L.length := by rw [HL.out]; simpa using hlt
          rw [List.take_succ_eq_append_getElem hl]
          congr 2
          simp only [HL.out, List.getElem_map, hc]
          rfl
        obtain ⟨c, hc, hget, htk⟩ := hget
        have HT := Aside0.mk htk
        clear htk
        obtain ⟨ad, e, hx⟩ := Kd.at_int HR.out (n : Int) (by omega) (by omega)
        cases e
        rw [Int.toNat_natCast, show rd l1 (n : Int) = (c : Int) from hget] at hx
        replace hx := (HB1.out.cell (World.block_lt_of_cell? w _ hx)).trans hx
        clear hget
        obtain ⟨a1, ha1⟩ : ∃ a1, a1 = a ^^^ c := ⟨_, rfl⟩
        have e1 : Go.bits .xor .u32 (a : Int) (c : Int) = (a1 : Int) := by rw [ha1]; exact u32_xor_nat a c HA.out (by omega)
        have h1 : a1 < 4294967296 := by rw [ha1]; exact xor_lt HA.out (by omega)
        obtain ⟨i1, t1, b1, hi1, e2, ht1, e3, hb1, hl1⟩ := four a1 h1
        obtain ⟨i2, t2, b2, hi2, e4, ht2, e5, hb2, hl2⟩ := four b1 hl1
        have c1 := (HGl.out.below HB1.out) i1 hi1
        rw [← ht1] at c1
        have c2 := (HGl.out.below HB1.out) i2 hi2
        rw [← ht2] at c2
        have HA1 := Aside0.mk ha1
        have HB1' := Aside0.mk hb1
        have HB2' := Aside0.mk hb2
        have HL2 := Aside0.mk hl2
        clear ha1 hb1 hb2 ht1 ht2 h1 hl1 hl2
        go_wp2
        have hb : b2 = (L.take (n + 1)).foldl stB n0 := by
          rw [HT.out, List.foldl_append, ← HF.out]
          show b2 = stB a c
          unfold stB
          rw [← HA1.out, ← HB1'.out]
          exact HB2'.out
        have HFB := Aside0.mk hb
        clear hb
        go_roundw
        case rel => exact ⟨n + 1, b2, by omega, by go_num, rfl, HL2, HFB, HB1⟩
        case measure => simp [intOf]; omega
      · obtain rfl : n = l1.length := by omega
        have hL1 : L.length = l1.length := by rw [HL.out]; simp
        obtain ⟨z, hz⟩ : ∃ z, z = a ^^^ ones := ⟨_, rfl⟩
        have en : Op.unary .xor (.int .u32 (a : Int)) = pure (.int .u32 (z : Int)) := by rw [hz]; exact un_xor a HA.out
        have hfin : moreN s L = z := by
          unfold moreN
          rw [hz, HF.out, ← hL1, List.take_length, HN0.out]
        have HZ := Aside0.mk hfin
        clear hfin hz hL1
        go_wp2
        go_ret
        exact ⟨ret_int (by rw [← HL.out, HZ.out]), HB1.out⟩
  · rw [if_neg hh] at h; cases h
end Go.Proofs.YtmppjcendcbamaaDoor.Q
