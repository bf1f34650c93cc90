import Derived.Test.YtmppjcendcbamaaDoorX
import Derived.Test.YtmppjcendcbamaaDoorProg
namespace Go.Proofs.YtmppjcendcbamaaDoor.Q
open Go.RowKit
/-- The table of the sum's steps, as it lies in memory. -/
def stepsN : List Nat := [0, 274646895, 549293790, 820201905, 1098587580, 1361435347, 1640403810, 1905808397, 2197175160, 2460548119, 2722870694, 2987750089, 3280807620, 3553878443, 3811616794, 4084100981]
def Glob (w : World) : Prop := ∀ j : Nat, j < 16 → w.cell? ⟨0, j, none⟩ = some (.int .u32 (stepsN.getD j 0 : Nat))
theorem Glob.below {w w1 : World} (h : Glob w) (hb : Below w.heap.size w w1) : Glob w1 := fun j hj => (hb.cell (World.block_lt_of_cell? w _ (h j hj))).trans (h j hj)
end Go.Proofs.YtmppjcendcbamaaDoor.Q
