/- DiskApart: the plain law. -/
import Derived.Test.YtkdbojaoaldmbaaG17
namespace Go.Proofs.Ytkdbojaoaldmbaa.G
open Go.RowKit Go.Proofs.Ytkdbojaoaldmbaa.Q Go.Proofs.YtkdbojaoaldmbaaW.PrintWords Go.Proofs.YtkdbojaoaldmbaaW.PrintLast Go.Proofs.YtkdbojaoaldmbaaW.PrintMore
set_option linter.unusedVariables false
set_option linter.unusedSimpArgs false
variable {st sta stb : St} {room : Int} {d k : Int} {n t name : ByteArray} {x : List Int}
theorem total_put_le (hs : Sorted st) (g : FS) : total (put st g) ≤ total st + g.b.length := by
  have := (total_put g hs).1
  split at this <;> omega
theorem total_drop_le (hs : Sorted st) (s : ByteArray) : total (G.drop st s) ≤ total st := by
  have := (total_drop s hs).1
  split at this <;> omega
theorem total_crash_le {keep : Int} : ∀ (st : St), total (crashS keep st) ≤ total st
  | [] => by simp [crashS, total]
  | f :: r => by
    have ih := total_crash_le (keep := keep) r
    unfold crashS at ih ⊢
    rw [List.filterMap_cons]
    by_cases hk : kpN keep f = 0
    · rw [if_pos hk]; simp only [total]; omega
    · rw [if_neg hk]
      simp only [total]
      have : (crashF keep f).b.length ≤ f.b.length := by show (f.b.take _).length ≤ _; rw [List.length_take]; omega
      omega
/-- Only what is appended makes the files greater. -/
theorem op_total (hs : Sorted st) : total (opS room st d n t x k) ≤ total st + x.length := by
  unfold opS
  split
  · unfold appendS
    split
    · split
      · omega
      · split
        · omega
        · have := (app_total hs n x).1; omega
    · omega
  split
  · unfold syncS
    cases hl : look st n with
    | none => dsimp only; omega
    | some f => dsimp only; rw [total_same hs hl]; omega
  split
  · unfold cutS
    cases hl : look st n with
    | none => dsimp only; omega
    | some f =>
      dsimp only
      split
      · have h1 := (total_put ⟨f.n, f.b.take k.toNat, k⟩ hs).1
        rw [(look_mem hl).2, hl] at h1
        dsimp only at h1
        rw [(look_mem hl).2]
        have : (f.b.take k.toNat).length ≤ f.b.length := by rw [List.length_take]; omega
        omega
      · omega
  split
  · unfold removeS
    cases hl : look st n with
    | none => dsimp only; omega
    | some f => dsimp only; have := total_drop_le hs n; omega
  split
  · unfold swapSt
    cases hl : look st n with
    | none => dsimp only; omega
    | some f =>
      dsimp only
      split
      · split
        · omega
        · split
          · omega
          · rename_i hne
            have := (swap_total hs hl hne).1
            split at this <;> omega
      · omega
  split
  · have := total_crash_le (keep := k) st; omega
  · omega
/-- What is done to another file. -/
theorem op_other (hs : Sorted st) (h1 : n ≠ name) (h2 : d = 4 → t ≠ name) (h3 : d ≠ 5) : look (opS room st d n t x k) name = look st name := by
  have hp : ∀ g : FS, g.n = n → look (put st g) name = look st name := fun g hg => by
    rw [look_put g name hs, if_neg (fun e => h1 (by rw [← hg, e]))]
  unfold opS
  split
  · unfold appendS
    split
    · split
      · rfl
      · split
        · rfl
        · exact hp _ rfl
    · rfl
  split
  · unfold syncS
    cases hl : look st n with
    | none => rfl
    | some f => exact hp _ (look_mem hl).2
  split
  · unfold cutS
    cases hl : look st n with
    | none => rfl
    | some f =>
      dsimp only
      split
      · exact hp _ (look_mem hl).2
      · rfl
  split
  · unfold removeS
    cases hl : look st n with
    | none => rfl
    | some f => dsimp only; rw [look_drop, if_neg (fun e => h1 e.symm)]
  split
  · rename_i h4
    unfold swapSt
    cases hl : look st n with
    | none => rfl
    | some f =>
      dsimp only
      split
      · split
        · rfl
        · split
          · rfl
          · unfold swapS
            rw [look_put _ _ (drop_sorted n hs), if_neg (fun e => h2 h4 e.symm), look_drop, if_neg (fun e => h1 e.symm)]
      · rfl
  first | rfl | (rw [if_neg h3])
theorem one_few (hs : Sorted stb) (h : ∀ f ∈ stb, f.n = name) : stb.length ≤ 1 := by
  match stb, hs, h with
  | [], _, _ => simp
  | [f], _, _ => simp
  | f :: g :: r, hs, h =>
    have h1 := (List.pairwise_cons.1 hs).1 g List.mem_cons_self
    rw [h f List.mem_cons_self, h g (List.mem_cons_of_mem _ List.mem_cons_self)] at h1
    exact absurd h1 (Lt.irrefl _)
/-- What is done to the file itself, or to all. -/
theorem op_same (ha : Sorted sta) (hb : Sorted stb) (hl : look sta name = look stb name) (ho : ∀ f ∈ stb, f.n = name) (h1 : n = name ∨ d = 5) (h2 : d = 4 → t = name) (h64 : d = 0 → sta.length < 64) (hra : (total sta : Int) + x.length ≤ room) (hrb : (total stb : Int) + x.length ≤ room) :
    opE room stb d n t x k = opE room sta d n t x k ∧ look (opS room sta d n t x k) name = look (opS room stb d n t x k) name ∧ ∀ f ∈ opS room stb d n t x k, f.n = name := by
  have hfew := one_few hb ho
  have hpm : ∀ g : FS, g.n = name → ∀ f ∈ put stb g, f.n = name := fun g hg f hf => by
    rcases put_mem hf with e | e
    · rw [e]; exact hg
    · exact ho f (e.elim (fun h => h.1) id)
  have hpl : ∀ g g' : FS, g.n = name → g' = g → look (put sta g) name = look (put stb g') name := fun g g' hg he => by
    rw [he, look_put g name ha, look_put g name hb, hg, if_pos rfl, if_pos rfl]
  unfold opE opS
  by_cases d0 : d = 0
  · rw [if_pos d0, if_pos d0, if_pos d0, if_pos d0]
    have hn : n = name := h1.resolve_right (by omega)
    subst hn
    have hA := h64 d0
    unfold appendE appendS
    by_cases ht : titleB n = true
    · rw [if_pos ht, if_pos ht, if_pos ht, if_pos ht]
      have f1 : ¬ (look sta n = none ∧ 64 ≤ sta.length) := fun e => by omega
      have f2 : ¬ (look stb n = none ∧ 64 ≤ stb.length) := fun e => by omega
      have f3 : ¬ ((x.length : Int) > room - total sta) := by omega
      have f4 : ¬ ((x.length : Int) > room - total stb) := by omega
      rw [if_neg f1, if_neg f2, if_neg f1, if_neg f2, if_neg f3, if_neg f4, if_neg f3, if_neg f4]
      refine ⟨rfl, ?_, fun f hf => hpm _ rfl f hf⟩
      have e1 : oldB sta n = oldB stb n := by unfold oldB; rw [hl]
      have e2 : oldL sta n = oldL stb n := by unfold oldL; rw [hl]
      exact hpl _ _ rfl (by rw [e1, e2])
    · rw [if_neg ht, if_neg ht, if_neg ht, if_neg ht]
      exact ⟨rfl, hl, ho⟩
  rw [if_neg d0, if_neg d0, if_neg d0, if_neg d0]
  by_cases d5 : d = 5
  · subst d5
    have q1 : ¬ ((5 : Int) = 1) := by decide
    have q2 : ¬ ((5 : Int) = 2) := by decide
    have q3 : ¬ ((5 : Int) = 3) := by decide
    have q4 : ¬ ((5 : Int) = 4) := by decide
    simp only [if_neg q1, if_neg q2, if_neg q3, if_neg q4, if_pos]
    refine ⟨trivial, by rw [look_crashS ha, look_crashS hb, hl], fun f hf => ?_⟩
    obtain ⟨g, hg, e, _⟩ := mem_crashS hf
    rw [e]; exact ho g hg
  have hn : n = name := h1.resolve_right d5
  subst hn
  by_cases d1 : d = 1
  · simp only [if_pos d1]
    unfold syncE syncS
    rw [← hl]
    cases hq : look sta n with
    | none => exact ⟨rfl, hl, ho⟩
    | some f => exact ⟨rfl, hpl ⟨f.n, f.b, (f.b.length : Nat)⟩ _ (look_mem hq).2 rfl, fun g hg => hpm ⟨f.n, f.b, (f.b.length : Nat)⟩ (look_mem hq).2 g hg⟩
  simp only [if_neg d1]
  by_cases d2 : d = 2
  · simp only [if_pos d2]
    unfold cutE cutS
    rw [← hl]
    cases hq : look sta n with
    | none => exact ⟨rfl, hl, ho⟩
    | some f =>
      dsimp only
      split
      · exact ⟨rfl, hpl ⟨f.n, f.b.take k.toNat, k⟩ _ (look_mem hq).2 rfl, fun g hg => hpm ⟨f.n, f.b.take k.toNat, k⟩ (look_mem hq).2 g hg⟩
      · exact ⟨rfl, hl, ho⟩
  simp only [if_neg d2]
  by_cases d3 : d = 3
  · simp only [if_pos d3]
    unfold removeE removeS
    rw [← hl]
    cases hq : look sta n with
    | none => exact ⟨rfl, hl, ho⟩
    | some f => exact ⟨rfl, by dsimp only; rw [look_drop, look_drop, if_pos rfl, if_pos rfl], fun g hg => ho g (List.mem_filter.1 hg).1⟩
  simp only [if_neg d3]
  by_cases d4 : d = 4
  · simp only [if_pos d4]
    have ht := h2 d4
    subst ht
    unfold swapE swapSt
    rw [← hl]
    cases hq : look sta t with
    | none => exact ⟨rfl, hl, ho⟩
    | some f =>
      dsimp only
      split
      · split
        · exact ⟨rfl, hl, ho⟩
        · rw [if_pos rfl, if_pos rfl]; exact ⟨rfl, hl, ho⟩
      · exact ⟨rfl, hl, ho⟩
  simp only [if_neg d4, if_neg d5]
  exact ⟨trivial, hl, ho⟩
end Go.Proofs.Ytkdbojaoaldmbaa.G
