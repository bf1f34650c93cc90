/- Plain laws of points, on: what is asked of a list, and of a merge. -/
import Derived.Test.YtfjhommpgbppjaaQ0
import Derived.Test.YtfjhommpgbppjaaE2
import Derived.Test.YtfjhommpgbppjaaPP4
namespace Go.Proofs.Ytfjhommpgbppjaa.PP
open Go.RowKit Go.Proofs.Ytfjhommpgbppjaa.Q Go.Proofs.YtfjhommpgbppjaaW.PrintWords Go.Proofs.YtfjhommpgbppjaaW.PrintLast Go.Proofs.YtfjhommpgbppjaaW.PrintMore
set_option linter.unusedVariables false

theorem bind_eq {α β : Type} {x : Option α} {a : α} {f : α → Option β} (h : x = some a) : x.bind f = f a := by rw [h]; rfl
theorem upto_ok (s : Int) (p q : S25) (h : p.f0 = q.f0) : cmb ((some p).filter (uptoP s)) ((some q).filter (uptoP s)) = (some (least p q)).filter (uptoP s) := by
  by_cases h1 : p.f2 ≤ s <;> by_cases h2 : q.f2 ≤ s <;> unfold least <;> by_cases h3 : ah p q = true <;> simp only [h3, if_true, if_false, Bool.false_eq_true] <;> simp [Option.filter, uptoP, h1, h2, cmb, least, h3] <;> (rw [ah_iff] at h3; omega)
theorem time_ok (P : S25 → Bool) (hP : ∀ p q : S25, p.f0 = q.f0 → P p = P q) (p q : S25) (h : p.f0 = q.f0) : cmb ((some p).filter P) ((some q).filter P) = (some (least p q)).filter P := by
  have h1 := hP p q h
  have h2 := hP p (least p q) (least_f0 h).symm
  cases hp : P p <;> simp [Option.filter, ← h1, ← h2, hp, cmb]
theorem range_t (lo hi : Int) (p q : S25) (h : p.f0 = q.f0) : rangeP lo hi p = rangeP lo hi q := by unfold rangeP; rw [h]
theorem window_t (t wd : Int) (p q : S25) (h : p.f0 = q.f0) : windowP t wd p = windowP t wd q := by unfold windowP; rw [h]
theorem upto {l : List S25} (h : l.length < 5864062014805) (s : Int) : points_Upto.f l s = some (l.filter (uptoP s)) := by unfold points_Upto.f; rw [if_pos h]
theorem range {l : List S25} (h : l.length < 5864062014805) (a b : Int) : points_Range.f l a b = some (l.filter (rangeP a b)) := by unfold points_Range.f; rw [if_pos h]
theorem window {l : List S25} (h : l.length < 5864062014805) (a b : Int) : points_Window.f l a b = some (l.filter (windowP a b)) := by unfold points_Window.f; rw [if_pos h]

theorem drop_filter (l : List S25) (P : S25 → Bool) (i : Nat) (h : i < l.length) : (l.drop i).filter P = if P (l.getD i z25) = true then l.getD i z25 :: (l.drop (i + 1)).filter P else (l.drop (i + 1)).filter P := by
  rw [List.drop_eq_getElem_cons h, getD_lt h, List.filter_cons]

end Go.Proofs.Ytfjhommpgbppjaa.PP
