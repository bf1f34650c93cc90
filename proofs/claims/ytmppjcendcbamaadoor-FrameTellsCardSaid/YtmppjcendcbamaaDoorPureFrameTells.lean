/- FrameTells: the pure statement, without program and memory. -/
import Derived.Test.YtmppjcendcbamaaDoorQ6
import Derived.Test.YtmppjcendcbamaaDoorRT
import Derived.Test.YtmppjcendcbamaaDoorF6
namespace Go.Proofs.YtmppjcendcbamaaDoor.Pure
open Go.RowKit Go.Proofs.YtmppjcendcbamaaDoor.Q Go.Proofs.YtmppjcendcbamaaDoorW.PrintWords Go.Proofs.YtmppjcendcbamaaDoorW.PrintLast Go.Proofs.YtmppjcendcbamaaDoorW.PrintMore

theorem FrameTells : ∀ (l0 : List (Int)) (a1 : Int) (a2 : Int), (l0.length ≤ maxLen ∧ ∀ y ∈ l0, (Lit.int .u8 y).wf = true) → (Lit.int .i64 a1).wf = true → (Lit.int .u8 a2).wf = true → ∃ k, manometerlaw02_FrameTells.f k l0 a1 a2 = some true := by
  intro b at_ bt ⟨_, hw⟩ _ hbt
  have hb := FF.By.of_wf hw
  have hbits : 0 ≤ bt ∧ bt < 256 := FF.By.of_wf (l := [bt]) (by intro y hy; rw [List.mem_singleton] at hy; rw [hy]; exact hbt) bt (by simp)
  obtain ⟨k, hk⟩ : ∃ k, k = 20 * b.length + 1000 := ⟨_, rfl⟩
  refine ⟨k + 2, ?_⟩
  have hT : manometerlaw02_FrameTells.j0 (k + 2) b at_ bt true = some true := by
    rw [manometerlaw02_FrameTells.j0, if_pos rfl, FF.live _ (by omega), Option.bind_some, if_pos rfl]
  unfold manometerlaw02_FrameTells.f
  rw [FF.live _ (by omega), Option.bind_some, if_pos rfl]
  by_cases h4 : (b.length : Int) > 4000
  · rw [if_pos h4]; exact hT
  · rw [if_neg h4]
    by_cases h5 : at_ < 0
    · rw [if_pos h5]; exact hT
    · rw [if_neg h5]
      by_cases h6 : at_ ≥ wrap64 ((b.length : Int) + 4)
      · rw [if_pos h6]; exact hT
      · rw [if_neg h6]
        by_cases h7 : bt = 0
        · rw [h7, show ((0 : Int) == 0) = true from rfl, ← h7]; exact hT
        · rw [show (bt == 0) = false from beq_eq_false_iff_ne.2 h7]
          rw [FF.wrap_in (by omega) (by omega)] at h6
          obtain ⟨a, rfl⟩ := FF.nat_of (s := at_) (by omega)
          obtain ⟨m, rfl⟩ := FF.nat_of hbits.1
          have hlen := FF.fr_len b
          have hh := FF.hd_len b.length
          have w1 : wrap64 ((b.length : Int) + 5) = ((b.length + 5 : Nat) : Int) := by rw [FF.wrap_in (by omega) (by omega)]; omega
          have w2 : wrap64 (wrap64 (((FF.fr b).length : Int) - 1) - (a : Int)) = (((FF.fr b).length - 1 - a : Nat) : Int) := by
            rw [FF.wrap_in (n := ((FF.fr b).length : Int) - 1) (by omega) (by omega), FF.wrap_in (by omega) (by omega)]; omega
          obtain ⟨p, hp⟩ : ∃ p, p = (FF.fr b).length - 1 - a := ⟨_, rfl⟩
          have hpl : p < (FF.fr b).length := by omega
          have hpj : (FF.hd b.length).length ≤ p := by omega
          obtain ⟨c, hc, hg, hr⟩ := FF.nat_cell (FF.fr_by hb) hpl
          have hx : Go.bits .xor .u8 (c : Int) (m : Int) = ((c ^^^ m : Nat) : Int) := u8_xor_nat c m hc (by omega)
          have hxl : c ^^^ m < 256 := Nat.xor_lt_two_pow (n := 8) hc (by omega)
          have hne : ((c ^^^ m : Nat) : Int) ≠ (FF.fr b)[p] := by
            rw [hg]
            intro h
            have h1 : c ^^^ m = c := by omega
            have h2 : m ^^^ c = 0 ^^^ c := by rw [Nat.xor_comm, h1, Nat.zero_xor]
            have := FF.xor_cancel h2
            omega
          have hs := FF.getN_spoilt hb (by omega) hpj hpl _ ⟨by omega, by omega⟩ hne
          have hby : FF.By ((FF.fr b).set p ((c ^^^ m : Nat) : Int)) := fun x hx => by
            rcases List.mem_or_eq_of_mem_set hx with h | h
            · exact FF.fr_by hb x h
            · rw [h]; omega
          rw [manometerlaw02_FrameTells.j0, if_neg Bool.false_ne_true, FF.put hb (by omega) (by omega), Option.bind_some, if_pos rfl, w1]
          dsimp only
          rw [show decide (((FF.fr b).length : Int) < ((b.length + 5 : Nat) : Int)) = false from decide_eq_false (by omega), manometerlaw02_FrameTells.j1, if_neg Bool.false_ne_true, w2, ← hp, if_pos (by omega), if_pos (by omega), hr, hx, Int.toNat_natCast,
            FF.get hby (by rw [List.length_set]; omega) (by omega), Option.bind_some, hs]
          rfl
end Go.Proofs.YtmppjcendcbamaaDoor.Pure
