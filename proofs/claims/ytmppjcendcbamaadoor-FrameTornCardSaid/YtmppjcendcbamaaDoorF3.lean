/- Plain laws of frame, on: masks and sizes. -/
import Derived.Test.YtmppjcendcbamaaDoorF2
import Derived.Test.YtmppjcendcbamaaDoorQ4
import Derived.Test.YtmppjcendcbamaaDoorQ6
namespace Go.Proofs.YtmppjcendcbamaaDoor.FF
open Go.RowKit Go.Proofs.YtmppjcendcbamaaDoor.Q Go.Proofs.YtmppjcendcbamaaDoorW.PrintWords Go.Proofs.YtmppjcendcbamaaDoorW.PrintLast Go.Proofs.YtmppjcendcbamaaDoorW.PrintMore
set_option linter.unusedVariables false

theorem u32_of_wf {n : Int} (h : (Lit.int .u32 n).wf = true) : 0 ≤ n ∧ n < 4294967296 := by
  simp [Lit.wf] at h
  have e1 : IntKind.u32.min = 0 := by decide
  have e2 : IntKind.u32.max = 4294967295 := by decide
  omega
theorem mk_eq {s : Nat} (hs : s < 4294967296) : mk s = (131072 * (s % 32768) + s / 32768 + 2726488792) % 4294967296 := by
  unfold mk
  have h := Nat.two_pow_add_eq_or_of_lt (i := 17) (b := s / 32768) (by omega) (s % 32768)
  rw [show (s * 131072) % 4294967296 = 2 ^ 17 * (s % 32768) by omega, Nat.or_comm, ← h]
/-- A sum out of its mask. -/
def un (n : Nat) : Nat := 32768 * ((n + 1568478504) % 4294967296 % 131072) + (n + 1568478504) % 4294967296 / 131072
theorem un_lt (n : Nat) : un n < 4294967296 := by unfold un; omega
theorem unmask {n : Nat} (hn : n < 4294967296) : frame_Unmask.f (n : Int) = some (un n : Int) := by
  unfold frame_Unmask.f un
  obtain ⟨t, ht⟩ : ∃ t, t = (n + 1568478504) % 4294967296 := ⟨_, rfl⟩
  have htl : t < 4294967296 := by omega
  have e : ((n : Int) - 2726488792) % 4294967296 = (t : Int) := by omega
  rw [e, ← ht]
  clear e ht
  have h := u32_or_nat (t / 131072) (t * 32768 % 4294967296) (by omega) (by omega)
  rw [show (t : Int) / 131072 = ((t / 131072 : Nat) : Int) by omega, show ((t : Int) * 32768) % 4294967296 = ((t * 32768 % 4294967296 : Nat) : Int) by omega, h]
  have h2 := Nat.two_pow_add_eq_or_of_lt (i := 15) (b := t / 131072) (by omega) (t % 131072)
  rw [show (t * 32768) % 4294967296 = 2 ^ 15 * (t % 131072) by omega, Nat.or_comm, ← h2]
theorem ref_unmask (a : Int) : manometerref02_Unmask.f a = frame_Unmask.f a := rfl
theorem un_mk {s : Nat} (hs : s < 4294967296) : un (mk s) = s := by
  rw [mk_eq hs]; unfold un
  obtain ⟨q, hq⟩ : ∃ q, q = s / 32768 := ⟨_, rfl⟩
  obtain ⟨r, hr⟩ : ∃ r, r = s % 32768 := ⟨_, rfl⟩
  rw [← hq, ← hr]
  have h1 : q < 131072 := by omega
  have h2 : r < 32768 := by omega
  have e : ((131072 * r + q + 2726488792) % 4294967296 + 1568478504) % 4294967296 = 131072 * r + q := by clear hq hr; omega
  have e1 : (131072 * r + q) % 131072 = q := by clear hq hr e; omega
  have e2 : (131072 * r + q) / 131072 = r := by clear hq hr e; omega
  rw [e, e1, e2]; omega
theorem mk_un {n : Nat} (hn : n < 4294967296) : mk (un n) = n := by
  rw [mk_eq (un_lt n)]; unfold un
  obtain ⟨t, ht⟩ : ∃ t, t = (n + 1568478504) % 4294967296 := ⟨_, rfl⟩
  rw [← ht]
  have h1 : (32768 * (t % 131072) + t / 131072) % 32768 = t / 131072 := by omega
  have h2 : (32768 * (t % 131072) + t / 131072) / 32768 = t % 131072 := by omega
  rw [h1, h2]
  have h3 : 131072 * (t / 131072) + t % 131072 = t := by omega
  rw [h3]; omega
theorem mk_inj {a b : Nat} (ha : a < 4294967296) (hb : b < 4294967296) (h : mk a = mk b) : a = b := by rw [← un_mk ha, ← un_mk hb, h]
theorem size_same (n : Int) {k : Nat} (hk : 20 ≤ k) : ∃ r, frame_Size.f k n = some r ∧ manometerref02_Size.f k n = some r := by
  obtain ⟨k, rfl⟩ : ∃ m, k = m + 1 := ⟨k - 1, by omega⟩
  unfold frame_Size.f manometerref02_Size.f
  by_cases h : n < 0
  · rw [if_pos h, if_pos h, frame_Size.j0, if_pos rfl, manometerref02_Size.j0, if_pos rfl]; exact ⟨0, rfl, rfl⟩
  · rw [if_neg h, if_neg h]
    by_cases h2 : n > 1048576
    · rw [decide_eq_true h2, frame_Size.j0, if_pos rfl, manometerref02_Size.j0, if_pos rfl]; exact ⟨0, rfl, rfl⟩
    · obtain ⟨m, rfl⟩ := nat_of (s := n) (by omega)
      have hw : IntKind.u64.wrap (m : Int) = (m : Int) := by rw [IntKind.wrap_u64]; omega
      rw [decide_eq_false h2, frame_Size.j0, if_neg Bool.false_ne_true, manometerref02_Size.j0, if_neg Bool.false_ne_true, hw, hd_put (by omega) (by omega), hd_ref (by omega) (by omega), Option.bind_some]
      exact ⟨_, rfl, rfl⟩
end Go.Proofs.YtmppjcendcbamaaDoor.FF
