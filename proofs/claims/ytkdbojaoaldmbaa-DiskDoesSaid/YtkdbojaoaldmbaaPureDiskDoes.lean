/- DiskDoes: the pure statement, without program and memory. -/
import Derived.Test.YtkdbojaoaldmbaaQ94
import Derived.Test.YtkdbojaoaldmbaaRT
namespace Go.Proofs.Ytkdbojaoaldmbaa.Pure
open Go.RowKit Go.Proofs.Ytkdbojaoaldmbaa.Q Go.Proofs.YtkdbojaoaldmbaaW.PrintWords Go.Proofs.YtkdbojaoaldmbaaW.PrintLast Go.Proofs.YtkdbojaoaldmbaaW.PrintMore Go.Proofs.YtkdbojaoaldmbaaW.RowWords

theorem okop_of {n t : ByteArray} {x : List Int} (h1 : n.size ≤ reach) (h2 : t.size ≤ reach) (h3 : x.length * 1 ≤ reach) : Go.Proofs.Ytkdbojaoaldmbaa.G.OkOp n t x := by
  have hq := Go.Proofs.YtkdbojaoaldmbaaW.RowWords.reach_eq
  exact ⟨by omega, by omega, by omega⟩
theorem okops_of {l : List S31} (h : l.length * 72 ≤ reach ∧ ∀ y ∈ l, W31 y) : Go.Proofs.Ytkdbojaoaldmbaa.G.OkOps l := by
  have hq := Go.Proofs.YtkdbojaoaldmbaaW.RowWords.reach_eq
  refine ⟨by omega, fun x hx => ?_⟩
  obtain ⟨_, h1, h2, h3, _⟩ := h.2 x hx
  exact okop_of h1 h2 h3.1
theorem DiskDoes : ∀ (a0 : Int) (l1 : List (S31)), (Lit.int .i64 a0).wf = true → (l1.length * 72 ≤ reach ∧ ∀ y ∈ l1, W31 y) → manometerlaw11_DiskDoes.f a0 l1 = some true := by
  intro a0 l1 _ h
  unfold manometerlaw11_DiskDoes.f
  rw [if_pos (okops_of h)]

end Go.Proofs.Ytkdbojaoaldmbaa.Pure
