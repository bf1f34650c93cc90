/- Plain laws of points, on: merging. -/
import Derived.Test.YtfjhommpgbppjaaR3
import Derived.Test.YtfjhommpgbppjaaR4
import Derived.Test.YtfjhommpgbppjaaRE2
import Derived.Test.YtfjhommpgbppjaaPR3
namespace Go.Proofs.Ytfjhommpgbppjaa.PR
open Go.RowKit Go.Proofs.Ytfjhommpgbppjaa.R Go.Proofs.YtfjhommpgbppjaaW.PrintWords Go.Proofs.YtfjhommpgbppjaaW.PrintLast Go.Proofs.YtfjhommpgbppjaaW.PrintMore
set_option linter.unusedVariables false

theorem rd0 (p : S25) (a : List S25) : rd_T25 (p :: a) 0 = p := rfl
theorem lenp (p : S25) (a : List S25) : (((p :: a).length : Int) > 0) = True := eq_true (by simp only [List.length_cons]; omega)
theorem lenp' (p : S25) (a : List S25) : ((0 : Int) < ((p :: a).length : Int)) = True := eq_true (by simp only [List.length_cons]; omega)
theorem lenz (p : S25) (a : List S25) : (((p :: a).length : Int) = 0) = False := eq_false (by simp only [List.length_cons]; omega)
theorem len1 (p : S25) (a : List S25) : ((1 : Int) ≤ ((p :: a).length : Int)) = True := eq_true (by simp only [List.length_cons]; omega)
theorem merge_loop (n : Nat) : ∀ (k : Nat) (a b x : List S25), a.length + b.length = n → 4 * n + 2 ≤ k → x.length + n ≤ 65536 →
    points_Merge.l0 k a b x = some (x ++ mg a b, 0) := by
  induction n using Nat.strongRecOn with
  | ind n ih =>
    intro k a b x hn hk hx
    have hxl : ∀ p : S25, (x ++ [p]).length = x.length + 1 := by simp
    match a, b with
    | [], [] =>
      obtain ⟨k, rfl⟩ : ∃ m, k = m + 2 := ⟨k - 2, by omega⟩
      simp [points_Merge.l0, points_Merge.j2, mg]
      omega
    | p :: a, [] =>
      simp only [List.length_cons, List.length_nil] at hn
      obtain ⟨k, rfl⟩ : ∃ m, k = m + 3 := ⟨k - 3, by omega⟩
      have hi := ih (a.length) (by omega) k a [] (x ++ [p]) (by simp) (by omega) (by rw [hxl]; omega)
      have h5 : x.length < 5864062014805 := by omega
      simp only [points_Merge.l0, points_Merge.j2, points_Merge.j3, lenp, len1, if_true, List.length_nil, Int.natCast_zero, h5, rd0, List.drop_one, List.tail_cons]
      simp only [hi, mg_nil, List.append_assoc, List.singleton_append]
    | [], q :: b =>
      simp only [List.length_cons, List.length_nil] at hn
      obtain ⟨k, rfl⟩ : ∃ m, k = m + 4 := ⟨k - 4, by omega⟩
      have hi := ih (b.length) (by omega) k [] b (x ++ [q]) (by simp) (by omega) (by rw [hxl]; omega)
      have h5 : x.length < 5864062014805 := by omega
      simp only [points_Merge.l0, points_Merge.j2, points_Merge.j3, points_Merge.j4, lenp, lenz, len1, if_true, if_false, List.length_nil, Int.natCast_zero, h5, rd0, List.drop_one, List.tail_cons, Int.lt_irrefl, gt_iff_lt, decide_true, Bool.false_eq_true]
      simp only [hi, nil_mg, List.append_assoc, List.singleton_append]
    | p :: a, q :: b =>
      simp only [List.length_cons] at hn
      have h5 : x.length < 5864062014805 := by omega
      by_cases h1 : p.f0 < q.f0
      · obtain ⟨k, rfl⟩ : ∃ m, k = m + 3 := ⟨k - 3, by omega⟩
        have hi := ih (a.length + (q :: b).length) (by simp only [List.length_cons]; omega) k a (q :: b) (x ++ [p]) rfl (by simp only [List.length_cons]; omega) (by rw [hxl]; simp only [List.length_cons]; omega)
        have hm : mg (p :: a) (q :: b) = p :: mg a (q :: b) := by rw [mg, if_pos h1]
        simp only [points_Merge.l0, points_Merge.j2, points_Merge.j3, lenp, lenz, len1, if_true, if_false, h5, rd0, List.drop_one, List.tail_cons, h1, decide_true]
        simp only [hi, hm, List.append_assoc, List.singleton_append]
      · by_cases h2 : q.f0 < p.f0
        · obtain ⟨k, rfl⟩ : ∃ m, k = m + 4 := ⟨k - 4, by omega⟩
          have hi := ih ((p :: a).length + b.length) (by simp only [List.length_cons]; omega) k (p :: a) b (x ++ [q]) rfl (by simp only [List.length_cons]; omega) (by rw [hxl]; simp only [List.length_cons]; omega)
          have hm : mg (p :: a) (q :: b) = q :: mg (p :: a) b := by rw [mg, if_neg h1, if_pos h2]
          simp only [points_Merge.l0, points_Merge.j2, points_Merge.j3, points_Merge.j4, lenp, lenz, len1, if_true, if_false, h5, rd0, List.drop_one, List.tail_cons, h1, h2, decide_true, decide_false, Bool.false_eq_true]
          simp only [hi, hm, List.append_assoc, List.singleton_append]
        · obtain ⟨k, rfl⟩ : ∃ m, k = m + 4 := ⟨k - 4, by omega⟩
          have he : p.f0 = q.f0 := by omega
          have hi := ih (a.length + b.length) (by omega) k a b (x ++ [least p q]) rfl (by omega) (by rw [hxl]; omega)
          have hm : mg (p :: a) (q :: b) = least p q :: mg a b := by rw [mg, if_neg h1, if_neg h2]
          simp only [points_Merge.l0, points_Merge.j2, points_Merge.j3, points_Merge.j4, lenp, lenz, len1, if_true, if_false, h5, rd0, List.drop_one, List.tail_cons, h1, h2, decide_true, decide_false, Bool.false_eq_true]
          have hc : least p q = if ah q p = true then q else p := least_comm he
          rw [ahead]; simp only [Option.bind_some]
          rw [hm]
          rw [hc] at hi ⊢
          by_cases e : ah q p = true
          · rw [if_pos e] at hi ⊢; rw [if_pos e, show (⟨q.f0, q.f1, q.f2⟩ : S25) = q from rfl, hi, List.append_assoc]; rfl
          · rw [if_neg e] at hi ⊢; rw [if_neg e, show (⟨p.f0, p.f1, p.f2⟩ : S25) = p from rfl, hi, List.append_assoc]; rfl

theorem merge {a b : List S25} (ha : Rt a) (hb : Rt b) (hl : a.length + b.length ≤ 65536) (k : Nat) (hk : 4 * (a.length + b.length) + 10 ≤ k) : points_Merge.f k a b = some (mg a b, 0) := by
  obtain ⟨x, hx, hxi⟩ := right a (by omega) k (by omega)
  obtain ⟨y, hy, hyi⟩ := right b (by omega) k (by omega)
  obtain rfl := hxi.2 ha
  obtain rfl := hyi.2 hb
  have hw : wrap64 ((a.length : Int) + (b.length : Int)) = ((a.length + b.length : Nat) : Int) := by rw [wrap_in (by omega) (by omega)]; omega
  obtain ⟨k, rfl⟩ : ∃ m, k = m + 1 := ⟨k - 1, by omega⟩
  have hi := merge_loop _ k a b [] rfl (by omega) (by simp only [List.length_nil]; omega)
  rw [List.nil_append] at hi
  unfold points_Merge.f
  rw [hx, Option.bind_some, if_pos rfl, hy, Option.bind_some, Bool.not_true, points_Merge.j0, if_neg Bool.false_ne_true, hw, if_pos (by omega), if_pos (by omega)]
  exact hi
theorem merge_bad {a b : List S25} (h : ¬ (Rt a ∧ Rt b)) (hl : a.length + b.length ≤ 65536) (k : Nat) (hk : 4 * (a.length + b.length) + 10 ≤ k) : points_Merge.f k a b = some ([], 1) := by
  obtain ⟨x, hx, hxi⟩ := right a (by omega) k (by omega)
  obtain ⟨y, hy, hyi⟩ := right b (by omega) k (by omega)
  obtain ⟨k, rfl⟩ : ∃ m, k = m + 1 := ⟨k - 1, by omega⟩
  have e1 : points_Merge.j0 (k + 1) a b true = some ([], 1) := by rw [points_Merge.j0, if_pos rfl]
  unfold points_Merge.f
  rw [hx, Option.bind_some]
  cases x with
  | false => rw [if_neg Bool.false_ne_true]; exact e1
  | true =>
    rw [if_pos rfl, hy, Option.bind_some]
    cases y with
    | false => exact e1
    | true => exact absurd ⟨hxi.1 rfl, hyi.1 rfl⟩ h
end Go.Proofs.Ytfjhommpgbppjaa.PR
