/- NetDoes: the pure statement, without program and memory. -/
import Derived.Test.YtlnipfmgdkiboaaNO
import Derived.Test.YtlnipfmgdkiboaaRT
namespace Go.Proofs.Ytlnipfmgdkiboaa.Pure
open Go.RowKit Go.Proofs.Ytlnipfmgdkiboaa.N Go.Proofs.Ytlnipfmgdkiboaa.Q Go.Proofs.YtlnipfmgdkiboaaW.PrintWords Go.Proofs.YtlnipfmgdkiboaaW.PrintLast Go.Proofs.YtlnipfmgdkiboaaW.PrintMore Go.Proofs.YtlnipfmgdkiboaaW.RowWords
theorem NetDoes : ∀ (a0 : Int) (l1 : List (S31)), (Lit.int .i64 a0).wf = true → (l1.length * 56 ≤ reach ∧ ∀ y ∈ l1, W31 y) → manometerlaw23_NetDoes.f a0 l1 = some true := by
  intro a0 l1 _ h
  unfold manometerlaw23_NetDoes.f
  rw [if_pos]
  have hq := Go.Proofs.YtlnipfmgdkiboaaW.RowWords.reach_eq
  refine ⟨by omega, fun x hx => ⟨?_, ?_, fun y hy => ?_⟩⟩
  · have h1 := (h.2 x hx).2.1
    omega
  · have h1 := (h.2 x hx).2.2.1.1
    omega
  · have h1 := ((h.2 x hx).2.2.1).2 y hy
    have h2 := h1.2.1
    omega
end Go.Proofs.Ytlnipfmgdkiboaa.Pure
