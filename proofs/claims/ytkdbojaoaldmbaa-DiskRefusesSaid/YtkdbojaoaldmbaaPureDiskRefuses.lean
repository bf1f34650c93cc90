/- DiskRefuses: the pure statement, without program and memory. -/
import Derived.Test.YtkdbojaoaldmbaaQ91
import Derived.Test.YtkdbojaoaldmbaaRT
namespace Go.Proofs.Ytkdbojaoaldmbaa.Pure
open Go.RowKit Go.Proofs.Ytkdbojaoaldmbaa.Q Go.Proofs.YtkdbojaoaldmbaaW.PrintWords Go.Proofs.YtkdbojaoaldmbaaW.PrintLast Go.Proofs.YtkdbojaoaldmbaaW.PrintMore Go.Proofs.YtkdbojaoaldmbaaW.RowWords

theorem okop_of {n t : ByteArray} {x : List Int} (h1 : n.size ≤ reach) (h2 : t.size ≤ reach) (h3 : x.length * 1 ≤ reach) : Go.Proofs.Ytkdbojaoaldmbaa.G.OkOp n t x := by
  have hq := Go.Proofs.YtkdbojaoaldmbaaW.RowWords.reach_eq
  exact ⟨by omega, by omega, by omega⟩
theorem okops_of {l : List S31} (h : l.length * 72 ≤ reach ∧ ∀ y ∈ l, W31 y) : Go.Proofs.Ytkdbojaoaldmbaa.G.OkOps l := by
  have hq := Go.Proofs.YtkdbojaoaldmbaaW.RowWords.reach_eq
  refine ⟨by omega, fun x hx => ?_⟩
  obtain ⟨_, h1, h2, h3, _⟩ := h.2 x hx
  exact okop_of h1 h2 h3.1
theorem DiskRefuses : ∀ (a0 : Int) (l1 : List (S31)) (a2_0 : Int) (a2_1 : ByteArray) (a2_2 : ByteArray) (l2_3 : List (Int)) (a2_4 : Int), (Lit.int .i64 a0).wf = true → (l1.length * 72 ≤ reach ∧ ∀ y ∈ l1, W31 y) → (Lit.int .i64 a2_0).wf = true → a2_1.size ≤ reach → a2_2.size ≤ reach → (l2_3.length * 1 ≤ reach ∧ ∀ y ∈ l2_3, (Lit.int .u8 y).wf = true) → (Lit.int .i64 a2_4).wf = true → manometerlaw11_DiskRefuses.f a0 l1 a2_0 a2_1 a2_2 l2_3 a2_4 = some true := by
  intro a0 l1 a2_0 a2_1 a2_2 l2_3 a2_4 _ h _ h1 h2 h3 _
  unfold manometerlaw11_DiskRefuses.f
  rw [if_pos]
  exact ⟨okops_of h, okop_of h1 h2 h3.1⟩

end Go.Proofs.Ytkdbojaoaldmbaa.Pure
