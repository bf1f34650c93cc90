import Derived.Test.YticoaaddhhiglaaT18
import Derived.Test.YticoaaddhhiglaaTC
import Derived.Test.YticoaaddhhiglaaQ10
import Derived.Test.YticoaaddhhiglaaQ14
import Derived.Test.YticoaaddhhiglaaQ15
/- What is allowed and denied again; lists and tenants that are the same: plain Lean. -/
namespace Go.Proofs.Yticoaaddhhiglaa.T
open Go.RowKit Go.Proofs.Yticoaaddhhiglaa.Q Go.Proofs.YticoaaddhhiglaaW.PrintWords Go.Proofs.YticoaaddhhiglaaW.PrintLast Go.Proofs.YticoaaddhhiglaaW.PrintMore
set_option linter.unusedVariables false
set_option linter.unusedSimpArgs false
theorem words_self0 (l : List ByteArray) (hl : l.length ≤ 9223372036854775807) : ∀ (d i k : Nat), i + d = l.length → d < k → manometerref18_Words.l0 k l l (l.length : Int) (i : Int) = some true
  | 0, i, k + 1, h, _ => by rw [manometerref18_Words.l0, if_neg (by omega)]
  | d + 1, i, k + 1, h, hk => by
    rw [manometerref18_Words.l0, if_pos (by omega), if_pos (by omega), if_pos (by omega), if_pos (by omega), if_pos rfl, show wrap64 ((i : Int) + 1) = ((i + 1 : Nat) : Int) by unfold wrap64; omega]
    exact words_self0 l hl d (i + 1) k (by omega) (by omega)
theorem words_self {l : List ByteArray} {k : Nat} (hl : l.length ≤ 1000) (hk : l.length < k) : manometerref18_Words.f k l l = some true := by
  unfold manometerref18_Words.f
  rw [if_pos rfl]
  exact words_self0 l (by omega) l.length 0 k (by omega) hk
theorem same_l0 (x : S39) (h1 : x.f1.length ≤ 100) (h5 : x.f5.length ≤ 100) : ∀ (d i k : Nat), i + d = x.f1.length → d + 200 < k → manometerref18_Same.l0 k (x.f1.length : Int) (i : Int) x.f0 x.f1 x.f2.f0 x.f2.f1 x.f2.f2 x.f2.f3 x.f3 x.f4 x.f5 x.f0 x.f1 x.f2.f0 x.f2.f1 x.f2.f2 x.f2.f3 x.f3 x.f4 x.f5 = some true
  | 0, i, k + 1, h, hk => by
    rw [manometerref18_Same.l0, if_neg (by omega), words_self (by omega) (by omega), Option.bind_some]
  | d + 1, i, k + 1, h, hk => by
    rw [manometerref18_Same.l0, if_pos (by omega), if_pos (by omega), if_pos (by omega), if_pos (by omega), if_pos rfl, if_pos rfl, show wrap64 ((i : Int) + 1) = ((i + 1 : Nat) : Int) by unfold wrap64; omega]
    exact same_l0 x h1 h5 d (i + 1) k (by omega) (by omega)
theorem same_self (x : S39) (h1 : x.f1.length ≤ 100) (h5 : x.f5.length ≤ 100) : manometerref18_Same.f 400 x.f0 x.f1 x.f2.f0 x.f2.f1 x.f2.f2 x.f2.f3 x.f3 x.f4 x.f5 x.f0 x.f1 x.f2.f0 x.f2.f1 x.f2.f2 x.f2.f3 x.f3 x.f4 x.f5 = some true := by
  unfold manometerref18_Same.f
  rw [if_pos rfl, if_pos rfl, if_pos rfl, if_pos rfl, if_pos rfl, if_pos rfl, if_pos rfl, show ((x.f1.length : Int) != (x.f1.length : Int)) = false by simp, manometerref18_Same.j0, if_neg (by decide)]
  exact same_l0 x h1 h5 x.f1.length 0 399 (by omega) (by omega)
theorem in_l0 (l : List ByteArray) (s : ByteArray) (hl : l.length ≤ 1000) : ∀ (d i k : Nat), i + d = l.length → d < k → manometerref18_In.l0 k s l (l.length : Int) (i : Int) = some (decide (s ∈ l.drop i))
  | 0, i, k + 1, h, _ => by
    rw [manometerref18_In.l0, if_neg (by omega), List.drop_of_length_le (by omega)]
    simp
  | d + 1, i, k + 1, h, hk => by
    have hil : i < l.length := by omega
    have hrd : rdOf ByteArray.empty l (i : Int) = l[i] := by
      unfold rdOf
      rw [Int.toNat_natCast, List.getD_eq_getElem?_getD, List.getElem?_eq_getElem hil]
      rfl
    rw [manometerref18_In.l0, if_pos (by omega), if_pos (by omega), if_pos (by omega), hrd]
    have hd : l.drop i = l[i] :: l.drop (i + 1) := List.drop_eq_getElem_cons hil
    by_cases e : l[i] = s
    · rw [if_pos (str_iff.2 e)]
      congr 1
      exact (decide_eq_true (by rw [hd]; exact List.mem_cons.2 (.inl e.symm))).symm
    · rw [if_neg (fun h => e (str_iff.1 h)), show wrap64 ((i : Int) + 1) = ((i + 1 : Nat) : Int) by unfold wrap64; omega, in_l0 l s hl d (i + 1) k (by omega) (by omega)]
      congr 1
      apply decide_eq_decide.2
      rw [hd, List.mem_cons]
      exact ⟨.inr, fun h => h.resolve_left (fun h => e h.symm)⟩
theorem in_f (l : List ByteArray) (s : ByteArray) (hl : l.length ≤ 1000) {k : Nat} (hk : l.length < k) : manometerref18_In.f k l s = some (decide (s ∈ l)) := by
  unfold manometerref18_In.f
  exact in_l0 l s hl l.length 0 k (by omega) hk
where bool_eq' {a b : Bool} (h : a = true ↔ b = true) : a = b := by cases a <;> cases b <;> simp_all
theorem wordAt_none {l : List ByteArray} {s : ByteArray} (h : wordAt l s = none) : s ∉ l := by
  unfold wordAt at h
  rw [List.findIdx?_eq_none_iff] at h
  intro hm
  have := h s hm
  simp at this
theorem do_other {st : St} {c : S27} (hr : rightE c = 0) (h0 : ¬ c.f0 = 0) : doT st c = (match look st c.f1 with | none => (180, st) | some x => if (changeT x c).1 = 0 then (0, put st (changeT x c).2) else ((changeT x c).1, st)) := by
  unfold doT
  rw [if_pos hr, if_neg h0]
  rfl
end Go.Proofs.Yticoaaddhhiglaa.T
