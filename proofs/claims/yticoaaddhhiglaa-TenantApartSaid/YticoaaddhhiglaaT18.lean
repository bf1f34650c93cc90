import Derived.Test.YticoaaddhhiglaaTE
/- What Do keeps: each number has one key; plain Lean. -/
namespace Go.Proofs.Yticoaaddhhiglaa.T
open Go.RowKit Go.Proofs.Yticoaaddhhiglaa.Q Go.Proofs.YticoaaddhhiglaaW.PrintWords Go.Proofs.YticoaaddhhiglaaW.PrintLast Go.Proofs.YticoaaddhhiglaaW.PrintMore
set_option linter.unusedVariables false
set_option linter.unusedSimpArgs false
def UniqK (l : List S23) : Prop := (l.map (·.f0)).Nodup
def Uniq (st : St) : Prop := ∀ x ∈ st, UniqK x.f1
theorem keyAt_none {l : List S23} {id : Int} (h : keyAt l id = none) : ∀ k ∈ l, ¬ k.f0 = id := by
  unfold keyAt at h
  rw [List.findIdx?_eq_none_iff] at h
  intro k hk
  simpa using h k hk
theorem keyAt_some {l : List S23} {id : Int} {j : Nat} (h : keyAt l id = some j) : ∃ hj : j < l.length, l[j].f0 = id ∧ ∀ i (hi : i < j), ¬ (l[i]'(by omega)).f0 = id := by
  unfold keyAt at h
  rw [List.findIdx?_eq_some_iff_getElem] at h
  obtain ⟨hj, h1, h2⟩ := h
  exact ⟨hj, by simpa using h1, fun i hi => by simpa using h2 i hi⟩
theorem find_take {l : List S23} {id : Int} {j : Nat} (h : keyAt l id = some j) : (l.take j).find? (fun k => decide (k.f0 = id)) = none := by
  obtain ⟨hj, h1, h2⟩ := keyAt_some h
  rw [List.find?_eq_none]
  intro k hk
  obtain ⟨i, hi, rfl⟩ := List.mem_iff_getElem.1 hk
  rw [List.length_take] at hi
  simpa using h2 i (by omega)
theorem find_set {l : List S23} {k : S23} {j : Nat} (h : keyAt l k.f0 = some j) : findK (l.set j k) k.f0 = (k.f1, true) := by
  obtain ⟨hj, h1, h2⟩ := keyAt_some h
  unfold findK
  rw [List.set_eq_take_append_cons_drop, if_pos hj, List.find?_append, find_take h, Option.none_or, List.find?_cons_of_pos (by simp)]
theorem find_snoc {l : List S23} {k : S23} (h : keyAt l k.f0 = none) : findK (l ++ [k]) k.f0 = (k.f1, true) := by
  unfold findK
  have : l.find? (fun y => decide (y.f0 = k.f0)) = none := by
    rw [List.find?_eq_none]
    intro y hy
    simpa using keyAt_none h y hy
  rw [List.find?_append, this, Option.none_or, List.find?_cons_of_pos (by simp)]
theorem find_erase {l : List S23} {id : Int} {j : Nat} (hu : UniqK l) (h : keyAt l id = some j) : (findK (l.eraseIdx j) id).2 = false := by
  obtain ⟨hj, h1, h2⟩ := keyAt_some h
  unfold findK
  have : (l.eraseIdx j).find? (fun y => decide (y.f0 = id)) = none := by
    rw [List.eraseIdx_eq_take_drop_succ, List.find?_append, find_take h, Option.none_or, List.find?_eq_none]
    intro y hy
    obtain ⟨i, hi, rfl⟩ := List.mem_iff_getElem.1 hy
    rw [List.length_drop] at hi
    rw [List.getElem_drop]
    intro he
    have he := of_decide_eq_true he
    have := (List.nodup_iff_pairwise_ne.1 hu)
    rw [List.pairwise_iff_getElem] at this
    have := this j (j + 1 + i) (by rw [List.length_map]; omega) (by rw [List.length_map]; omega) (by omega)
    simp only [List.getElem_map] at this
    exact this (h1.trans he.symm)
  rw [this]
theorem uniq_set {l : List S23} {k : S23} {j : Nat} (hu : UniqK l) (h : keyAt l k.f0 = some j) : UniqK (l.set j k) := by
  obtain ⟨hj, h1, h2⟩ := keyAt_some h
  unfold UniqK
  have : (l.set j k).map (·.f0) = l.map (·.f0) := by
    rw [List.map_set]
    apply List.ext_getElem
    · simp
    · intro i hi hi'
      rw [List.getElem_set]
      split
      · rename_i e; subst e; simp [h1]
      · rfl
  rw [this]
  exact hu
theorem uniq_snoc {l : List S23} {k : S23} (hu : UniqK l) (h : keyAt l k.f0 = none) : UniqK (l ++ [k]) := by
  unfold UniqK
  rw [List.map_append, List.nodup_append]
  refine ⟨hu, by simp, ?_⟩
  intro a ha b hb e
  simp only [List.map_cons, List.map_nil, List.mem_cons, List.not_mem_nil, or_false] at hb
  subst hb; subst e
  obtain ⟨y, hy, e⟩ := List.mem_map.1 ha
  exact keyAt_none h y hy e
theorem uniq_erase {l : List S23} {j : Nat} (hu : UniqK l) : UniqK (l.eraseIdx j) := by
  unfold UniqK
  exact List.Nodup.sublist ((List.eraseIdx_sublist l j).map _) hu
theorem uniq_change {x : S39} {c : S27} (hu : UniqK x.f1) : UniqK (changeT x c).2.f1 := by
  unfold changeT
  split
  · split
    · rename_i h; exact uniq_set hu h
    · split
      · exact hu
      · rename_i h _; exact uniq_snoc hu h
  split
  · split
    · exact uniq_erase hu
    · exact hu
  split
  · exact hu
  split
  · split
    · exact hu
    · split
      · exact hu
      · exact hu
  · split
    · exact hu
    · exact hu
theorem uniq_put {st : St} {x : S39} (h : Uniq st) (hx : UniqK x.f1) : Uniq (put st x) := by
  intro y hy
  rcases put_mem hy with e | ⟨e, _⟩ | e
  · rw [e]; exact hx
  · exact h y e
  · exact h y e
theorem uniq_do {st : St} {c : S27} (h : Uniq st) : Uniq (doT st c).2 := by
  unfold doT
  split
  · split
    · split
      · exact h
      · split
        · exact h
        · exact uniq_put h (by simp [newT, UniqK])
    · split
      · exact h
      · rename_i x hx
        split
        · exact uniq_put h (uniq_change (h x (look_mem hx).1))
        · exact h
  · exact h
theorem look_put_self {st : St} {x : S39} (hs : Sorted st) : look (put st x) x.f0 = some x := by
  rw [look_put x x.f0 hs, if_pos rfl]
/-- What Key tells behind a change that was done. -/
theorem do_key {st : St} {c : S27} (hs : Sorted st) (hu : Uniq st) (h0 : (doT st c).1 = 0) : (c.f0 = 2 → (keyT (doT st c).2 c.f1 c.f2.f0).2 = false) ∧ ((c.f0 = 1 ∨ c.f0 = 0) → keyT (doT st c).2 c.f1 c.f2.f0 = (c.f2.f1, true)) := by
  unfold doT at h0 ⊢
  by_cases hr : rightE c = 0
  · rw [if_pos hr] at h0 ⊢
    by_cases hd : c.f0 = 0
    · rw [if_pos hd] at h0 ⊢
      cases hl : look st c.f1 with
      | some x => rw [hl] at h0; cases h0
      | none =>
        rw [hl] at h0
        dsimp only at h0 ⊢
        split at h0
        · cases h0
        · rename_i h16
          rw [if_neg h16]
          refine ⟨fun h => by omega, fun _ => ?_⟩
          unfold keyT
          have := look_put_self (x := newT c) hs
          rw [show look (put st (newT c)) c.f1 = some (newT c) from this]
          simp [newT, findK]
    · rw [if_neg hd] at h0 ⊢
      cases hl : look st c.f1 with
      | none => rw [hl] at h0; cases h0
      | some x =>
        rw [hl] at h0
        dsimp only at h0 ⊢
        split at h0
        · rename_i he
          rw [if_pos he]
          have hn : (changeT x c).2.f0 = c.f1 := (change_name x c).trans (look_mem hl).2
          have hself := look_put_self (x := (changeT x c).2) hs
          rw [hn] at hself
          unfold keyT
          dsimp only
          rw [hself]
          dsimp only
          have hux := hu x (look_mem hl).1
          constructor
          · intro h2
            unfold changeT at he ⊢
            rw [if_neg (by omega), if_pos h2] at he ⊢
            cases hk : keyAt x.f1 c.f2.f0 with
            | none => rw [hk] at he; cases he
            | some j => exact find_erase hux hk
          · rintro (h1 | h1)
            · unfold changeT at he ⊢
              rw [if_pos h1] at he ⊢
              cases hk : keyAt x.f1 c.f2.f0 with
              | some j => exact find_set hk
              | none =>
                rw [hk] at he
                dsimp only at he ⊢
                split at he
                · cases he
                · rename_i q
                  rw [if_neg q]
                  exact find_snoc hk
            · exact absurd h1 hd
        · rename_i he
          exact absurd h0 he
  · rw [if_neg hr] at h0
    exact absurd h0 hr
theorem do_range {st : St} {c : S27} (h0 : (doT st c).1 = 0) : rightE c = 0 := by
  unfold doT at h0
  by_cases hr : rightE c = 0
  · exact hr
  · rw [if_neg hr] at h0
    exact absurd h0 hr
end Go.Proofs.Yticoaaddhhiglaa.T
