/- Plain laws of points, on: putting is merging with a list of one. -/
import Derived.Test.YtfjhommpgbppjaaQ0
import Derived.Test.YtfjhommpgbppjaaV3
import Derived.Test.YtfjhommpgbppjaaPP3
namespace Go.Proofs.Ytfjhommpgbppjaa.PP
open Go.RowKit Go.Proofs.Ytfjhommpgbppjaa.Q Go.Proofs.YtfjhommpgbppjaaW.PrintWords Go.Proofs.YtfjhommpgbppjaaW.PrintLast Go.Proofs.YtfjhommpgbppjaaW.PrintMore
set_option linter.unusedVariables false

theorem ah_irr (p : S25) : ah p p = false := by simp [ah]
/-- Where a point of that time stands: put in its place if it counts. -/
theorem mg_found (p : S25) (l : List S25) : ∀ n, Srt l → First l p.f0 n → n < l.length → (l.getD n z25).f0 = p.f0 → mg l [p] = if ah p (l.getD n z25) = true then l.set n p else l := by
  induction l with
  | nil => intro n _ _ h; simp at h
  | cons x l ih =>
    intro n hs hf hn he
    have k := srt_cons.1 hs
    obtain ⟨f1, f2, f3⟩ := hf
    by_cases hx : x.f0 < p.f0
    · obtain ⟨n, rfl⟩ : ∃ m, n = m + 1 := by
        cases n with
        | zero => have := f3 0 (by omega) (by simp); simp at this; omega
        | succ n => exact ⟨n, rfl⟩
      have hg : ∀ i, (x :: l).getD (i + 1) z25 = l.getD i z25 := fun i => rfl
      have hi := ih n k.2 ⟨by simp at f1; omega, fun i hi => by rw [← hg]; exact f2 (i + 1) (by omega), fun i h1 h2 => by rw [← hg]; exact f3 (i + 1) (by omega) (by simp; omega)⟩ (by simp at hn; omega) he
      rw [mg, if_pos hx, hi, hg]
      split <;> rfl
    · have hn0 : n = 0 := by
        cases n with
        | zero => rfl
        | succ n => have := f2 0 (by omega); simp at this; omega
      subst hn0
      have he' : x.f0 = p.f0 := he
      rw [mg, if_neg hx, if_neg (by omega), mg_nil, least_comm he', show (x :: l).getD 0 z25 = x from rfl]
      unfold least
      split <;> rfl
theorem mg_new (p : S25) (l : List S25) : ∀ n, Srt l → First l p.f0 n → ¬ (n < l.length ∧ (l.getD n z25).f0 = p.f0) → mg l [p] = l.take n ++ [p] ++ l.drop n := by
  induction l with
  | nil => intro n _ hf h; simp [nil_mg]
  | cons x l ih =>
    intro n hs hf hn
    have k := srt_cons.1 hs
    obtain ⟨f1, f2, f3⟩ := hf
    by_cases hx : x.f0 < p.f0
    · obtain ⟨n, rfl⟩ : ∃ m, n = m + 1 := by
        cases n with
        | zero => have := f3 0 (by omega) (by simp); simp at this; omega
        | succ n => exact ⟨n, rfl⟩
      have hg : ∀ i, (x :: l).getD (i + 1) z25 = l.getD i z25 := fun i => rfl
      have hi := ih n k.2 ⟨by simp at f1; omega, fun i hi => by rw [← hg]; exact f2 (i + 1) (by omega), fun i h1 h2 => by rw [← hg]; exact f3 (i + 1) (by omega) (by simp; omega)⟩ (fun h => hn ⟨by simp; omega, by rw [hg]; exact h.2⟩)
      rw [mg, if_pos hx, hi]
      rfl
    · have hn0 : n = 0 := by
        cases n with
        | zero => rfl
        | succ n => have := f2 0 (by omega); simp at this; omega
      subst hn0
      have he : x.f0 ≠ p.f0 := fun e => hn ⟨by simp, e⟩
      rw [mg, if_neg hx, if_pos (by omega), mg_nil]
      rfl
theorem look_first {l : List S25} {t : Int} {n : Nat} (hs : Srt l) (hf : First l t n) : look l t = if n < l.length ∧ (l.getD n z25).f0 = t then some (l.getD n z25) else none := by
  split
  · rename_i h
    have := look_mem hs (p := l.getD n z25) (by rw [getD_lt h.1]; exact List.getElem_mem _)
    rwa [h.2] at this
  · rename_i h
    refine look_none fun x hx e => ?_
    obtain ⟨i, hi, rfl⟩ := List.getElem_of_mem hx
    rw [← getD_lt hi] at e
    have h1 : n ≤ i := by
      rcases Nat.lt_or_ge i n with h2 | h2
      · have := hf.2.1 i h2; omega
      · exact h2
    have h3 := hf.2.2 n (Nat.le_refl _) (by omega)
    by_cases h4 : n = i
    · exact h ⟨by omega, by rw [h4]; exact e⟩
    · have hn : n < l.length := by omega
      have := List.pairwise_iff_getElem.1 hs n i hn hi (by omega)
      rw [← getD_lt hi, ← getD_lt hn] at this
      omega
theorem put {l : List S25} {p : S25} (hl : l.length ≤ 60000) (hp : p.f2 ≠ 0) (hr : Rt l) (k : Nat) (hk : 2 * l.length + 10 ≤ k) :
    ∃ n, points_Put.f k l p.f0 p.f1 p.f2 = some (mg l [p], n, 0) ∧ (n = 1 ∧ look l p.f0 = none ∨ ∃ q, look l p.f0 = some q ∧ n = if q.f1 = p.f1 then 2 else if ah p q = true then 3 else 4) := by
  obtain ⟨x, hx, hxi⟩ := right l (by omega) k (by omega)
  obtain rfl := hxi.2 hr
  have hs := ((rt_iff l).1 hr).2.1
  obtain ⟨n, b, h1, h2, h3⟩ := find l p.f0 (by omega) hr
  have hlk := look_first hs h2
  obtain ⟨k, rfl⟩ : ∃ m, k = m + 3 := ⟨k - 3, by omega⟩
  have hnl := h2.1
  unfold points_Put.f
  rw [if_neg hp, hx, Option.bind_some, Bool.not_true, points_Put.j0, if_neg Bool.false_ne_true, h1, Option.bind_some]
  cases b with
  | true =>
    have h4 := h3.1 rfl
    rw [if_pos h4] at hlk
    have hm := mg_found p l n hs h2 h4.1 h4.2
    rw [if_pos rfl, if_pos (by omega), if_pos (by omega)]
    rw [show rd_T25 l ((n : Int), true).1 = l.getD n z25 from rfl]
    generalize hq : l.getD n z25 = q at *
    have fin : ∀ told : Int, points_Put.j1 (k + 2) l (n : Int) told p.f0 p.f1 p.f2 q.f0 q.f1 q.f2 = some (mg l [p], told, 0) := by
      intro told
      have j2t : ah p q = false → points_Put.j2 (k + 1) l (n : Int) told true p.f0 p.f1 p.f2 = some (mg l [p], told, 0) := fun ha => by
        rw [points_Put.j2, if_pos rfl, hm, ha, if_neg Bool.false_ne_true]
      have j2 : points_Put.j2 (k + 1) l (n : Int) told (!ah p q) p.f0 p.f1 p.f2 = some (mg l [p], told, 0) := by
        by_cases ha : ah p q = true
        · rw [ha, Bool.not_true, points_Put.j2, if_neg Bool.false_ne_true, Option.bind_some, if_pos (by simp; omega), Option.bind_some, if_pos (by omega), if_pos (by rw [List.nil_append]; omega), hm, if_pos ha]
          rfl
        · rw [Bool.not_eq_true] at ha
          rw [ha, Bool.not_false]; exact j2t ha
      have ha := ahead p q
      rw [points_Put.j1]
      by_cases e0 : p.f0 = q.f0
      · rw [if_pos e0]
        by_cases e1 : p.f1 = q.f1
        · rw [if_pos e1]
          by_cases e2 : p.f2 = q.f2
          · rw [if_pos e2]
            exact j2t (by rw [s25_ext e0 e1 e2]; exact ah_irr q)
          · rw [if_neg e2, ha, Option.bind_some]; exact j2
        · rw [if_neg e1, ha, Option.bind_some]; exact j2
      · rw [if_neg e0, ha, Option.bind_some]; exact j2
    by_cases e : q.f1 = p.f1
    · rw [if_pos e]
      exact ⟨2, fin 2, .inr ⟨q, hlk, by rw [if_pos e]⟩⟩
    · rw [if_neg e, ahead, Option.bind_some]
      by_cases ha : ah p q = true
      · rw [if_pos ha]
        exact ⟨3, fin 3, .inr ⟨q, hlk, by rw [if_neg e, if_pos ha]⟩⟩
      · rw [if_neg ha]
        exact ⟨4, fin 4, .inr ⟨q, hlk, by rw [if_neg e, if_neg ha]⟩⟩
  | false =>
    have h4 : ¬ (n < l.length ∧ (l.getD n z25).f0 = p.f0) := fun h => by have := h3.2 h; cases this
    rw [if_neg h4] at hlk
    have hm := mg_new p l n hs h2 h4
    have hw : wrap64 ((l.length : Int) + 1) = ((l.length + 1 : Nat) : Int) := by rw [wrap_in (by omega) (by omega)]; omega
    refine ⟨1, ?_, .inl ⟨rfl, hlk⟩⟩
    rw [if_neg Bool.false_ne_true, if_neg (by omega), hw, if_pos (by omega), if_pos (by omega), Option.bind_some, if_pos (by omega), if_pos (by omega), Option.bind_some, if_pos (by simp; omega), Option.bind_some, Option.bind_some, if_pos (by simp; omega), Option.bind_some, Option.bind_some, if_pos (by simp; omega), hm]
    rfl
theorem put_bad {l : List S25} {p : S25} (hl : l.length ≤ 60000) (h : ¬ (p.f2 ≠ 0 ∧ Rt l)) (k : Nat) (hk : 2 * l.length + 10 ≤ k) : points_Put.f k l p.f0 p.f1 p.f2 = some (l, 0, 1) := by
  obtain ⟨x, hx, hxi⟩ := right l (by omega) k (by omega)
  obtain ⟨k, rfl⟩ : ∃ m, k = m + 1 := ⟨k - 1, by omega⟩
  have hj : points_Put.j0 (k + 1) l true p.f0 p.f1 p.f2 = some (l, 0, 1) := by rw [points_Put.j0, if_pos rfl]
  unfold points_Put.f
  by_cases hp : p.f2 = 0
  · rw [if_pos hp]; exact hj
  · rw [if_neg hp, hx, Option.bind_some]
    cases x with
    | true => exact absurd ⟨hp, hxi.1 rfl⟩ h
    | false => exact hj
theorem srt_one (p : S25) : Srt [p] := List.pairwise_singleton _ _
theorem rt_put {l : List S25} {p : S25} (hl : l.length ≤ 60000) (hp : p.f2 ≠ 0) (hr : Rt l) : Rt (mg l [p]) :=
  rt_mg hr ((rt_iff _).2 ⟨by simpa using hp, srt_one p, by simp⟩) (by simp; omega)
theorem put_len {l : List S25} {p : S25} (hs : Srt l) : (mg l [p]).length = l.length + if look l p.f0 = none then 1 else 0 := by
  induction l with
  | nil => simp [nil_mg, look]
  | cons x l ih =>
    have k := srt_cons.1 hs
    have hi := ih k.2
    rw [mg, look]
    by_cases h1 : x.f0 < p.f0
    · have h0 : ¬ x.f0 = p.f0 := by omega
      rw [if_pos h1, if_neg h0, List.length_cons, hi, List.length_cons]; omega
    · rw [if_neg h1]
      by_cases h2 : p.f0 < x.f0
      · have h0 : ¬ x.f0 = p.f0 := by omega
        rw [if_pos h2, if_neg h0, look_none (t := p.f0) (fun y hy => by have := k.1 y hy; omega), mg_nil, if_pos rfl]; rfl
      · have h0 : x.f0 = p.f0 := by omega
        rw [if_neg h2, if_pos h0, mg_nil, if_neg (by simp)]; rfl
theorem cnt_none {l : List S25} {t : Int} (h : look l t = none) : l.countP (fun q => decide (q.f0 = t)) = 0 := by
  induction l with
  | nil => rfl
  | cons x l ih =>
    rw [look] at h
    split at h
    · cases h
    · rename_i e; rw [List.countP_cons, ih h]; simp [e]
theorem cnt_one {l : List S25} {t : Int} (hs : Srt l) {q : S25} (h : look l t = some q) : l.countP (fun q => decide (q.f0 = t)) = 1 := by
  induction l with
  | nil => cases h
  | cons x l ih =>
    have k := srt_cons.1 hs
    rw [look] at h
    rw [List.countP_cons]
    split at h
    · rename_i e
      rw [cnt_none (look_none fun y hy => by have := k.1 y hy; omega)]; simp [e]
    · rename_i e; rw [ih k.2 h]; simp [e]
theorem cnt_split (l : List S25) (t : Int) : l.countP (fun q => decide (q.f0 = t)) + l.countP (fun q => !decide (q.f0 = t)) = l.length := by
  induction l with
  | nil => rfl
  | cons x l ih => rw [List.countP_cons, List.countP_cons, List.length_cons]; by_cases e : x.f0 = t <;> simp [e] <;> omega
theorem look_put {l : List S25} {p : S25} (hs : Srt l) (t : Int) : look (mg l [p]) t = cmb (look l t) (if p.f0 = t then some p else none) := by
  rw [look_mg _ t _ _ (Nat.le_refl _) hs (srt_one p)]; rfl
/-- How many of other times: as ahead. -/
theorem cnt_put {l : List S25} {p : S25} (hs : Srt l) : (mg l [p]).countP (fun q => !decide (q.f0 = p.f0)) = l.countP (fun q => !decide (q.f0 = p.f0)) ∧ (mg l [p]).countP (fun q => decide (q.f0 = p.f0)) = 1 := by
  have hm := srt_mg _ l [p] (Nat.le_refl _) hs (srt_one p)
  have h1 := cnt_split l p.f0
  have h2 := cnt_split (mg l [p]) p.f0
  have h3 := put_len (p := p) hs
  have h4 := look_put (p := p) hs p.f0
  rw [if_pos rfl] at h4
  cases h5 : look l p.f0 with
  | none =>
    rw [h5] at h3 h4
    have h6 := cnt_one hm (h4.trans rfl)
    have h7 := cnt_none h5
    rw [if_pos rfl] at h3
    exact ⟨by omega, h6⟩
  | some q =>
    rw [h5] at h3 h4
    have h6 := cnt_one hm (h4.trans rfl)
    have h7 := cnt_one hs h5
    rw [if_neg (by simp)] at h3
    exact ⟨by omega, h6⟩
end Go.Proofs.Ytfjhommpgbppjaa.PP
