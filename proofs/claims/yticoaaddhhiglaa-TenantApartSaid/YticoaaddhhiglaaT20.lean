import Derived.Test.YticoaaddhhiglaaT18
import Derived.Test.YticoaaddhhiglaaTC
import Derived.Test.YticoaaddhhiglaaQ10
import Derived.Test.YticoaaddhhiglaaQ14
import Derived.Test.YticoaaddhhiglaaQ15
/- What is allowed and denied again; lists and tenants that are the same: plain Lean. -/
namespace Go.Proofs.Yticoaaddhhiglaa.T
open Go.RowKit Go.Proofs.Yticoaaddhhiglaa.Q Go.Proofs.YticoaaddhhiglaaW.PrintWords Go.Proofs.YticoaaddhhiglaaW.PrintLast Go.Proofs.YticoaaddhhiglaaW.PrintMore
set_option linter.unusedVariables false
set_option linter.unusedSimpArgs false
theorem words_self0 (l : List ByteArray) (hl : l.length ≤ 9223372036854775807) : ∀ (d i k : Nat), i + d = l.length → d < k → manometerref18_Words.l0 k l l (l.length : Int) (i : Int) = some true
  | 0, i, k + 1, h, _ => by rw [manometerref18_Words.l0, if_neg (by omega)]
  | d + 1, i, k + 1, h, hk => by
    rw [manometerref18_Words.l0, if_pos (by omega), if_pos (by omega), if_pos (by omega), if_pos (by omega), if_pos rfl, show wrap64 ((i : Int) + 1) = ((i + 1 : Nat) : Int) by unfold wrap64; omega]
    exact words_self0 l hl d (i + 1) k (by omega) (by omega)
theorem words_self {l : List ByteArray} {k : Nat} (hl : l.length ≤ 1000) (hk : l.length < k) : manometerref18_Words.f k l l = some true := by
  unfold manometerref18_Words.f
  rw [if_pos rfl]
  exact words_self0 l (by omega) l.length 0 k (by omega) hk
theorem same_l0 (x : S39) (h1 : x.f1.length ≤ 100) (h5 : x.f5.length ≤ 100) : ∀ (d i k : Nat), i + d = x.f1.length → d + 200 < k → manometerref18_Same.l0 k (x.f1.length : Int) (i : Int) x.f0 x.f1 x.f2.f0 x.f2.f1 x.f2.f2 x.f2.f3 x.f3 x.f4 x.f5 x.f0 x.f1 x.f2.f0 x.f2.f1 x.f2.f2 x.f2.f3 x.f3 x.f4 x.f5 = some true
  | 0, i, k + 1, h, hk => by
    rw [manometerref18_Same.l0, if_neg (by omega), words_self (by omega) (by omega), Option.bind_some]
  | d + 1, i, k + 1, h, hk => by
    rw [manometerref18_Same.l0, if_pos (by omega), if_pos (by omega), if_pos (by omega), if_pos (by omega), if_pos rfl, if_pos rfl, show wrap64 ((i : Int) + 1) = ((i + 1 : Nat) : Int) by unfold wrap64; omega]
    exact same_l0 x h1 h5 d (i + 1) k (by omega) (by omega)
theorem same_self (x : S39) (h1 : x.f1.length ≤ 100) (h5 : x.f5.length ≤ 100) : manometerref18_Same.f 400 x.f0 x.f1 x.f2.f0 x.f2.f1 x.f2.f2 x.f2.f3 x.f3 x.f4 x.f5 x.f0 x.f1 x.f2.f0 x.f2.f1 x.f2.f2 x.f2.f3 x.f3 x.f4 x.f5 = some true := by
  unfold manometerref18_Same.f
  rw [if_pos rfl, if_pos rfl, if_pos rfl, if_pos rfl, if_pos rfl, if_pos rfl, if_pos rfl, show ((x.f1.length : Int) != (x.f1.length : Int)) = false by simp, manometerref18_Same.j0, if_neg (by decide)]
  exact same_l0 x h1 h5 x.f1.length 0 399 (by omega) (by omega)
theorem in_l0 (l : List ByteArray) (s : ByteArray) (hl : l.length ≤ 1000) : ∀ (d i k : Nat), i + d = l.length → d < k → manometerref18_In.l0 k s l (l.length : Int) (i : Int) = some (decide (s ∈ l.drop i))
  | 0, i, k + 1, h, _ => by
    rw [manometerref18_In.l0, if_neg (by omega), List.drop_of_length_le (by omega)]
    simp
  | d + 1, i, k + 1, h, hk => by
    have hil : i < l.length := by omega
    have hrd : rdOf ByteArray.empty l (i : Int) = l[i] := by
      unfold rdOf
      rw [Int.toNat_natCast, List.getD_eq_getElem?_getD, List.getElem?_eq_getElem hil]
      rfl
    rw [manometerref18_In.l0, if_pos (by omega), if_pos (by omega), if_pos (by omega), hrd]
    have hd : l.drop i = l[i] :: l.drop (i + 1) := List.drop_eq_getElem_cons hil
    by_cases e : l[i] = s
    · rw [if_pos (str_iff.2 e)]
      congr 1
      exact (decide_eq_true (by rw [hd]; exact List.mem_cons.2 (.inl e.symm))).symm
    · rw [if_neg (fun h => e (str_iff.1 h)), show wrap64 ((i : Int) + 1) = ((i + 1 : Nat) : Int) by unfold wrap64; omega, in_l0 l s hl d (i + 1) k (by omega) (by omega)]
      congr 1
      apply decide_eq_decide.2
      rw [hd, List.mem_cons]
      exact ⟨.inr, fun h => h.resolve_left (fun h => e h.symm)⟩
theorem in_f (l : List ByteArray) (s : ByteArray) (hl : l.length ≤ 1000) {k : Nat} (hk : l.length < k) : manometerref18_In.f k l s = some (decide (s ∈ l)) := by
  unfold manometerref18_In.f
  exact in_l0 l s hl l.length 0 k (by omega) hk
/-- Who reads is told by Reads and Access alike. -/
theorem access_in (st : St) (who owner : ByteArray) : decide (owner ∈ accessT st who) = readsT st who owner := by
  apply bool_eq'
  rw [decide_eq_true_eq, accessT, List.mem_filter]
  constructor
  · exact fun h => h.2
  · intro h
    refine ⟨?_, h⟩
    unfold readsT at h
    cases hl : look st owner with
    | none => rw [hl] at h; cases h
    | some x =>
      obtain ⟨h1, h2⟩ := look_mem hl
      exact List.mem_map.2 ⟨x, h1, h2⟩
where bool_eq' {a b : Bool} (h : a = true ↔ b = true) : a = b := by cases a <;> cases b <;> simp_all
def allowT (who owner : ByteArray) : S27 := ⟨4, owner, ⟨0, ⟨#[]⟩⟩, ⟨0, 0, 0, 0⟩, 0, 0, who⟩
def denyT (who owner : ByteArray) : S27 := ⟨5, owner, ⟨0, ⟨#[]⟩⟩, ⟨0, 0, 0, 0⟩, 0, 0, who⟩
theorem right_allow {who owner : ByteArray} (h : rightE (allowT who owner) = 0) : rightE (denyT who owner) = 0 ∧ who ≠ owner := by
  unfold rightE at h ⊢
  have a0 : (allowT who owner).f0 = 4 := rfl
  have a1 : (allowT who owner).f1 = owner := rfl
  have a6 : (allowT who owner).f6 = who := rfl
  have b0 : (denyT who owner).f0 = 5 := rfl
  have b1 : (denyT who owner).f1 = owner := rfl
  have b6 : (denyT who owner).f6 = who := rfl
  rw [a0, a1, a6] at h
  rw [b0, b1, b6]
  simp only [show ¬ ((4 : Int) < 0 ∨ (5 : Int) < 4) by decide, show ¬ (4 : Int) = 0 by decide, show ¬ (4 : Int) = 1 by decide, show ¬ (4 : Int) = 2 by decide, show ¬ (4 : Int) = 3 by decide, if_false] at h
  simp only [show ¬ ((5 : Int) < 0 ∨ (5 : Int) < 5) by decide, show ¬ (5 : Int) = 0 by decide, show ¬ (5 : Int) = 1 by decide, show ¬ (5 : Int) = 2 by decide, show ¬ (5 : Int) = 3 by decide, if_false]
  refine ⟨h, fun e => ?_⟩
  split at h
  · cases h
  · split at h
    · cases h
    · cases h
theorem wordAt_none {l : List ByteArray} {s : ByteArray} (h : wordAt l s = none) : s ∉ l := by
  unfold wordAt at h
  rw [List.findIdx?_eq_none_iff] at h
  intro hm
  have := h s hm
  simp at this
theorem wordAt_snoc {l : List ByteArray} {s : ByteArray} (h : s ∉ l) : wordAt (l ++ [s]) s = some l.length := by
  unfold wordAt
  rw [List.findIdx?_eq_some_iff_getElem]
  refine ⟨by simp, by simp, fun j hj => ?_⟩
  rw [List.getElem_append_left hj]
  have hm : l[j] ∈ l := List.getElem_mem hj
  intro e
  have e := of_decide_eq_true e
  rw [e] at hm
  exact h hm
theorem do_other {st : St} {c : S27} (hr : rightE c = 0) (h0 : ¬ c.f0 = 0) : doT st c = (match look st c.f1 with | none => (180, st) | some x => if (changeT x c).1 = 0 then (0, put st (changeT x c).2) else ((changeT x c).1, st)) := by
  unfold doT
  rw [if_pos hr, if_neg h0]
  rfl
theorem change_allow (x : S39) (who owner : ByteArray) : changeT x (allowT who owner) = (match wordAt x.f5 who with | some _ => (100, x) | none => if 8 ≤ x.f5.length then (5, x) else (0, { x with f5 := x.f5 ++ [who] })) := rfl
theorem change_deny (x : S39) (who owner : ByteArray) : changeT x (denyT who owner) = (match wordAt x.f5 who with | some j => (0, { x with f5 := x.f5.eraseIdx j }) | none => (4, x)) := rfl
theorem allow_do {st : St} {who owner : ByteArray} (h : (doT st (allowT who owner)).1 = 0) : ∃ x, look st owner = some x ∧ who ∉ x.f5 ∧ who ≠ owner ∧ rightE (denyT who owner) = 0 ∧ doT st (allowT who owner) = (0, put st { x with f5 := x.f5 ++ [who] }) := by
  have hr := do_range h
  obtain ⟨hr2, hne⟩ := right_allow hr
  have e := do_other (st := st) hr (show ¬ (4 : Int) = 0 by decide)
  rw [show (allowT who owner).f1 = owner from rfl] at e
  rw [e] at h ⊢
  cases hl : look st owner with
  | none => rw [hl] at h; cases h
  | some x =>
    rw [hl] at h
    dsimp only at h ⊢
    have hch := change_allow x who owner
    cases hw : wordAt x.f5 who with
    | some j => rw [hw] at hch; rw [hch] at h; cases h
    | none =>
      rw [hw] at hch
      dsimp only at hch
      by_cases h8 : 8 ≤ x.f5.length
      · rw [if_pos h8] at hch; rw [hch] at h; cases h
      · rw [if_neg h8] at hch
        exact ⟨x, rfl, wordAt_none hw, hne, hr2, by rw [hch]; rfl⟩
/-- What was allowed is read, and denied again it is as it was. -/
theorem turns {st : St} (hs : Sorted st) {who owner : ByteArray} (h : (doT st (allowT who owner)).1 = 0) :
    ∃ x, look st owner = some x ∧ readsT (doT st (allowT who owner)).2 who owner = true ∧ ∃ st2, doT (doT st (allowT who owner)).2 (denyT who owner) = (0, st2) ∧ readsT st2 who owner = false ∧ look st2 owner = some x := by
  obtain ⟨x, hl, hnot, hne, hr2, e⟩ := allow_do h
  rw [e]
  dsimp only
  have hx0 := (look_mem hl).2
  obtain ⟨x1, hx1⟩ : ∃ x1 : S39, x1 = { x with f5 := x.f5 ++ [who] } := ⟨_, rfl⟩
  rw [← hx1]
  have hn1 : x1.f0 = owner := by rw [hx1]; exact hx0
  have hl1 : look (put st x1) owner = some x1 := by rw [← hn1]; exact look_put_self hs
  have hs1 := put_sorted x1 hs
  have hc2 : changeT x1 (denyT who owner) = (0, x) := by
    rw [change_deny, show wordAt x1.f5 who = some x.f5.length by rw [hx1]; exact wordAt_snoc hnot]
    dsimp only
    rw [hx1]
    have : (x.f5 ++ [who]).eraseIdx x.f5.length = x.f5 := by
      rw [List.eraseIdx_append_of_length_le (Nat.le_refl _)]
      simp
    dsimp only
    rw [this]
  have e2 := do_other (st := put st x1) hr2 (show ¬ (5 : Int) = 0 by decide)
  rw [show (denyT who owner).f1 = owner from rfl, hl1] at e2
  dsimp only at e2
  rw [hc2] at e2
  refine ⟨x, hl, ?_, put (put st x1) x, e2, ?_, ?_⟩
  · unfold readsT
    rw [hl1, hx1]
    simp
  · unfold readsT
    rw [← hx0, look_put_self hs1]
    dsimp only
    rw [decide_eq_false (by rw [hx0]; exact hne), decide_eq_false hnot]
    rfl
  · rw [← hx0]
    exact look_put_self hs1
theorem turns_not {st : St} {c : S27} (h : ¬ (doT st c).1 = 0) : (doT st c).2 = st := by
  unfold doT at h ⊢
  split
  · rename_i hr
    rw [if_pos hr] at h
    split
    · rename_i h0
      rw [if_pos h0] at h
      split
      · rfl
      · split
        · rfl
        · rename_i hl h16
          rw [hl] at h
          simp only [h16, if_false] at h
          exact (h trivial).elim
    · rename_i h0
      rw [if_neg h0] at h
      split
      · rfl
      · rename_i x hl
        rw [hl] at h
        dsimp only at h
        split
        · rename_i he
          rw [if_pos he] at h
          exact absurd rfl h
        · rfl
  · rfl
end Go.Proofs.Yticoaaddhhiglaa.T
