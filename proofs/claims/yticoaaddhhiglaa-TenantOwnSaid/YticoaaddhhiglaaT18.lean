import Derived.Test.YticoaaddhhiglaaTE
/- What Do keeps: each number has one key; plain Lean. -/
namespace Go.Proofs.Yticoaaddhhiglaa.T
open Go.RowKit Go.Proofs.Yticoaaddhhiglaa.Q Go.Proofs.YticoaaddhhiglaaW.PrintWords Go.Proofs.YticoaaddhhiglaaW.PrintLast Go.Proofs.YticoaaddhhiglaaW.PrintMore
set_option linter.unusedVariables false
set_option linter.unusedSimpArgs false
def UniqK (l : List S23) : Prop := (l.map (·.f0)).Nodup
def Uniq (st : St) : Prop := ∀ x ∈ st, UniqK x.f1
theorem keyAt_none {l : List S23} {id : Int} (h : keyAt l id = none) : ∀ k ∈ l, ¬ k.f0 = id := by
  unfold keyAt at h
  rw [List.findIdx?_eq_none_iff] at h
  intro k hk
  simpa using h k hk
theorem keyAt_some {l : List S23} {id : Int} {j : Nat} (h : keyAt l id = some j) : ∃ hj : j < l.length, l[j].f0 = id ∧ ∀ i (hi : i < j), ¬ (l[i]'(by omega)).f0 = id := by
  unfold keyAt at h
  rw [List.findIdx?_eq_some_iff_getElem] at h
  obtain ⟨hj, h1, h2⟩ := h
  exact ⟨hj, by simpa using h1, fun i hi => by simpa using h2 i hi⟩
theorem uniq_set {l : List S23} {k : S23} {j : Nat} (hu : UniqK l) (h : keyAt l k.f0 = some j) : UniqK (l.set j k) := by
  obtain ⟨hj, h1, h2⟩ := keyAt_some h
  unfold UniqK
  have : (l.set j k).map (·.f0) = l.map (·.f0) := by
    rw [List.map_set]
    apply List.ext_getElem
    · simp
    · intro i hi hi'
      rw [List.getElem_set]
      split
      · rename_i e; subst e; simp [h1]
      · rfl
  rw [this]
  exact hu
theorem uniq_snoc {l : List S23} {k : S23} (hu : UniqK l) (h : keyAt l k.f0 = none) : UniqK (l ++ [k]) := by
  unfold UniqK
  rw [List.map_append, List.nodup_append]
  refine ⟨hu, by simp, ?_⟩
  intro a ha b hb e
  simp only [List.map_cons, List.map_nil, List.mem_cons, List.not_mem_nil, or_false] at hb
  subst hb; subst e
  obtain ⟨y, hy, e⟩ := List.mem_map.1 ha
  exact keyAt_none h y hy e
theorem uniq_erase {l : List S23} {j : Nat} (hu : UniqK l) : UniqK (l.eraseIdx j) := by
  unfold UniqK
  exact List.Nodup.sublist ((List.eraseIdx_sublist l j).map _) hu
theorem uniq_change {x : S39} {c : S27} (hu : UniqK x.f1) : UniqK (changeT x c).2.f1 := by
  unfold changeT
  split
  · split
    · rename_i h; exact uniq_set hu h
    · split
      · exact hu
      · rename_i h _; exact uniq_snoc hu h
  split
  · split
    · exact uniq_erase hu
    · exact hu
  split
  · exact hu
  split
  · split
    · exact hu
    · split
      · exact hu
      · exact hu
  · split
    · exact hu
    · exact hu
theorem uniq_put {st : St} {x : S39} (h : Uniq st) (hx : UniqK x.f1) : Uniq (put st x) := by
  intro y hy
  rcases put_mem hy with e | ⟨e, _⟩ | e
  · rw [e]; exact hx
  · exact h y e
  · exact h y e
theorem uniq_do {st : St} {c : S27} (h : Uniq st) : Uniq (doT st c).2 := by
  unfold doT
  split
  · split
    · split
      · exact h
      · split
        · exact h
        · exact uniq_put h (by simp [newT, UniqK])
    · split
      · exact h
      · rename_i x hx
        split
        · exact uniq_put h (uniq_change (h x (look_mem hx).1))
        · exact h
  · exact h
end Go.Proofs.Yticoaaddhhiglaa.T
