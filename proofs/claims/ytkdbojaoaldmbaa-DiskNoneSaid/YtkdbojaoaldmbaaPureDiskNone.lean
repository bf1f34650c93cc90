/- DiskNone: the pure statement, without program and memory. -/
import Derived.Test.YtkdbojaoaldmbaaQ90
import Derived.Test.YtkdbojaoaldmbaaRT
namespace Go.Proofs.Ytkdbojaoaldmbaa.Pure
open Go.RowKit Go.Proofs.Ytkdbojaoaldmbaa.Q Go.Proofs.YtkdbojaoaldmbaaW.PrintWords Go.Proofs.YtkdbojaoaldmbaaW.PrintLast Go.Proofs.YtkdbojaoaldmbaaW.PrintMore

theorem DiskNone (a0_0 : Int) (a0_1 a0_2 : ByteArray) (l0_3 : List Int) (a0_4 : Int) (w0 : (Lit.int .i64 a0_0).wf = true) (w1 : a0_1.size ≤ maxLen) (w2 : a0_2.size ≤ maxLen) (w3 : l0_3.length ≤ maxLen ∧ ∀ y ∈ l0_3, (Lit.int .u8 y).wf = true) (w4 : (Lit.int .i64 a0_4).wf = true) :
    manometerlaw11_DiskNone.f a0_0 a0_1 a0_2 l0_3 a0_4 = some true := rfl

end Go.Proofs.Ytkdbojaoaldmbaa.Pure
