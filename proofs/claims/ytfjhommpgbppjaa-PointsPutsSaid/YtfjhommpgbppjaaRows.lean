/-
  No cell of these rows narrows 'for every input' (looked for: loops, veiled, ifaces, maps, wideKeys, modest, calm, conditions, laid).
  DERIVED. THE GIVEN ROWS OF THIS SEAT. 9 by the template 'for every input the law returns true; each argument reads behind the call as it read before'; 0 by the template 'total and deterministic' (their statements: YtfjhommpgbppjaaTotals.lean).
  GIVEN WITH THE SEED: the statements are not yours to turn. If you find one false, say at which input.
  Laid BY PROGRAM, IN A SANDBOX (cutbox-rows.mjs): the forced cells as the released guide's own fill.sh prints them over the translation b1200032fdc042c7… (all of the seat's roots in one cut). By AI agents, Wed Nov 11 2026. No macro, syntax, notation, axiom, sorry.
-/
import Derived.Test.YtfjhommpgbppjaaChecked
import GoSem.Claim
import GoSem.ClaimJoined
import GoSem.ClaimMapViews
import Derived.JoinedTies
import Derived.KernelRfl
namespace Go.Proofs.Ytfjhommpgbppjaa
/- THE CELL 'sum', in the pinned program and in every row, IS THE sha256 OF THE DUMP (.gsa) THAT YtfjhommpgbppjaaProg.lean LOADS. Nothing in Lean hashes anything: it is a label: what it is worth is what the hold of that sum in a sandbox is worth. -/
noncomputable def Try.pinned : Pinned := { name := "ytfjhommpgbppjaa", sum := "b1200032fdc042c72448796c86f88a6c820abfa844c1fbd71b57cf46455e3990", checked := Try.checked }
namespace Rows
def none {H : Type} : Left H := { results := [], args := [] }

/-- 'manometerlaw09.PointsRights': WHATEVER THE INPUT: true; the input reads as it did. -/
def pointsRightsSpec : ChangeSpec := { name := "pointsRights", fn := fun _ => fun
  | [d1, d2, d3] => { results := [.lit (.bool true)], args := [d1, d2, d3] }
  | _ => none }
def pointsRightsRow : OpenClaim := { program := "ytfjhommpgbppjaa", sum := "b1200032fdc042c72448796c86f88a6c820abfa844c1fbd71b57cf46455e3990", func := "manometer/manometerlaw09.PointsRights", spec := "pointsRights", unfollowed := true, recurses := true, apart := false }
def PointsRightsSaid : Prop := pointsRightsRow.holds Try.pinned (OpenSpec.ofChange pointsRightsSpec)

/-- ITS FALSE NEIGHBOUR: 'it returns false'. Refute it at one input. -/
def pointsRightsWrong : ChangeSpec := { name := "pointsRights", fn := fun _ => fun
  | [d1, d2, d3] => { results := [.lit (.bool false)], args := [d1, d2, d3] }
  | _ => none }
def PointsRightsWrongFalsely : Prop := pointsRightsRow.holds Try.pinned (OpenSpec.ofChange pointsRightsWrong)

/-- 'manometerlaw09.PointsFinds': WHATEVER THE INPUT: true; the input reads as it did. -/
def pointsFindsSpec : ChangeSpec := { name := "pointsFinds", fn := fun _ => fun
  | [d1, d2] => { results := [.lit (.bool true)], args := [d1, d2] }
  | _ => none }
def pointsFindsRow : OpenClaim := { program := "ytfjhommpgbppjaa", sum := "b1200032fdc042c72448796c86f88a6c820abfa844c1fbd71b57cf46455e3990", func := "manometer/manometerlaw09.PointsFinds", spec := "pointsFinds", unfollowed := true, recurses := true, apart := false }
def PointsFindsSaid : Prop := pointsFindsRow.holds Try.pinned (OpenSpec.ofChange pointsFindsSpec)

/-- ITS FALSE NEIGHBOUR: 'it returns false'. Refute it at one input. -/
def pointsFindsWrong : ChangeSpec := { name := "pointsFinds", fn := fun _ => fun
  | [d1, d2] => { results := [.lit (.bool false)], args := [d1, d2] }
  | _ => none }
def PointsFindsWrongFalsely : Prop := pointsFindsRow.holds Try.pinned (OpenSpec.ofChange pointsFindsWrong)

/-- 'manometerlaw09.PointsPuts': WHATEVER THE INPUT: true; the input reads as it did. -/
def pointsPutsSpec : ChangeSpec := { name := "pointsPuts", fn := fun _ => fun
  | [d1, d2] => { results := [.lit (.bool true)], args := [d1, d2] }
  | _ => none }
def pointsPutsRow : OpenClaim := { program := "ytfjhommpgbppjaa", sum := "b1200032fdc042c72448796c86f88a6c820abfa844c1fbd71b57cf46455e3990", func := "manometer/manometerlaw09.PointsPuts", spec := "pointsPuts", unfollowed := true, recurses := true, apart := false }
def PointsPutsSaid : Prop := pointsPutsRow.holds Try.pinned (OpenSpec.ofChange pointsPutsSpec)

/-- ITS FALSE NEIGHBOUR: 'it returns false'. Refute it at one input. -/
def pointsPutsWrong : ChangeSpec := { name := "pointsPuts", fn := fun _ => fun
  | [d1, d2] => { results := [.lit (.bool false)], args := [d1, d2] }
  | _ => none }
def PointsPutsWrongFalsely : Prop := pointsPutsRow.holds Try.pinned (OpenSpec.ofChange pointsPutsWrong)

/-- 'manometerlaw09.PointsStays': WHATEVER THE INPUT: true; the input reads as it did. -/
def pointsStaysSpec : ChangeSpec := { name := "pointsStays", fn := fun _ => fun
  | [d1, d2] => { results := [.lit (.bool true)], args := [d1, d2] }
  | _ => none }
def pointsStaysRow : OpenClaim := { program := "ytfjhommpgbppjaa", sum := "b1200032fdc042c72448796c86f88a6c820abfa844c1fbd71b57cf46455e3990", func := "manometer/manometerlaw09.PointsStays", spec := "pointsStays", unfollowed := true, recurses := true, apart := false }
def PointsStaysSaid : Prop := pointsStaysRow.holds Try.pinned (OpenSpec.ofChange pointsStaysSpec)

/-- ITS FALSE NEIGHBOUR: 'it returns false'. Refute it at one input. -/
def pointsStaysWrong : ChangeSpec := { name := "pointsStays", fn := fun _ => fun
  | [d1, d2] => { results := [.lit (.bool false)], args := [d1, d2] }
  | _ => none }
def PointsStaysWrongFalsely : Prop := pointsStaysRow.holds Try.pinned (OpenSpec.ofChange pointsStaysWrong)

/-- 'manometerlaw09.PointsParts': WHATEVER THE INPUT: true; the input reads as it did. -/
def pointsPartsSpec : ChangeSpec := { name := "pointsParts", fn := fun _ => fun
  | [d1, d2] => { results := [.lit (.bool true)], args := [d1, d2] }
  | _ => none }
def pointsPartsRow : OpenClaim := { program := "ytfjhommpgbppjaa", sum := "b1200032fdc042c72448796c86f88a6c820abfa844c1fbd71b57cf46455e3990", func := "manometer/manometerlaw09.PointsParts", spec := "pointsParts", unfollowed := true, recurses := true, apart := false }
def PointsPartsSaid : Prop := pointsPartsRow.holds Try.pinned (OpenSpec.ofChange pointsPartsSpec)

/-- ITS FALSE NEIGHBOUR: 'it returns false'. Refute it at one input. -/
def pointsPartsWrong : ChangeSpec := { name := "pointsParts", fn := fun _ => fun
  | [d1, d2] => { results := [.lit (.bool false)], args := [d1, d2] }
  | _ => none }
def PointsPartsWrongFalsely : Prop := pointsPartsRow.holds Try.pinned (OpenSpec.ofChange pointsPartsWrong)

/-- 'manometerlaw09.PointsMerges': WHATEVER THE INPUT: true; the input reads as it did. -/
def pointsMergesSpec : ChangeSpec := { name := "pointsMerges", fn := fun _ => fun
  | [d1, d2] => { results := [.lit (.bool true)], args := [d1, d2] }
  | _ => none }
def pointsMergesRow : OpenClaim := { program := "ytfjhommpgbppjaa", sum := "b1200032fdc042c72448796c86f88a6c820abfa844c1fbd71b57cf46455e3990", func := "manometer/manometerlaw09.PointsMerges", spec := "pointsMerges", unfollowed := true, recurses := true, apart := false }
def PointsMergesSaid : Prop := pointsMergesRow.holds Try.pinned (OpenSpec.ofChange pointsMergesSpec)

/-- ITS FALSE NEIGHBOUR: 'it returns false'. Refute it at one input. -/
def pointsMergesWrong : ChangeSpec := { name := "pointsMerges", fn := fun _ => fun
  | [d1, d2] => { results := [.lit (.bool false)], args := [d1, d2] }
  | _ => none }
def PointsMergesWrongFalsely : Prop := pointsMergesRow.holds Try.pinned (OpenSpec.ofChange pointsMergesWrong)

/-- 'manometerlaw09.PointsOrder': WHATEVER THE INPUT: true; the input reads as it did. -/
def pointsOrderSpec : ChangeSpec := { name := "pointsOrder", fn := fun _ => fun
  | [d1, d2, d3] => { results := [.lit (.bool true)], args := [d1, d2, d3] }
  | _ => none }
def pointsOrderRow : OpenClaim := { program := "ytfjhommpgbppjaa", sum := "b1200032fdc042c72448796c86f88a6c820abfa844c1fbd71b57cf46455e3990", func := "manometer/manometerlaw09.PointsOrder", spec := "pointsOrder", unfollowed := true, recurses := true, apart := false }
def PointsOrderSaid : Prop := pointsOrderRow.holds Try.pinned (OpenSpec.ofChange pointsOrderSpec)

/-- ITS FALSE NEIGHBOUR: 'it returns false'. Refute it at one input. -/
def pointsOrderWrong : ChangeSpec := { name := "pointsOrder", fn := fun _ => fun
  | [d1, d2, d3] => { results := [.lit (.bool false)], args := [d1, d2, d3] }
  | _ => none }
def PointsOrderWrongFalsely : Prop := pointsOrderRow.holds Try.pinned (OpenSpec.ofChange pointsOrderWrong)

/-- 'manometerlaw09.PointsFolds': WHATEVER THE INPUT: true; the input reads as it did. -/
def pointsFoldsSpec : ChangeSpec := { name := "pointsFolds", fn := fun _ => fun
  | [d1, d2] => { results := [.lit (.bool true)], args := [d1, d2] }
  | _ => none }
def pointsFoldsRow : OpenClaim := { program := "ytfjhommpgbppjaa", sum := "b1200032fdc042c72448796c86f88a6c820abfa844c1fbd71b57cf46455e3990", func := "manometer/manometerlaw09.PointsFolds", spec := "pointsFolds", unfollowed := true, recurses := true, apart := false }
def PointsFoldsSaid : Prop := pointsFoldsRow.holds Try.pinned (OpenSpec.ofChange pointsFoldsSpec)

/-- ITS FALSE NEIGHBOUR: 'it returns false'. Refute it at one input. -/
def pointsFoldsWrong : ChangeSpec := { name := "pointsFolds", fn := fun _ => fun
  | [d1, d2] => { results := [.lit (.bool false)], args := [d1, d2] }
  | _ => none }
def PointsFoldsWrongFalsely : Prop := pointsFoldsRow.holds Try.pinned (OpenSpec.ofChange pointsFoldsWrong)

/-- 'manometerlaw09.PointsPartly': WHATEVER THE INPUT: true; the input reads as it did. -/
def pointsPartlySpec : ChangeSpec := { name := "pointsPartly", fn := fun _ => fun
  | [d1, d2, d3] => { results := [.lit (.bool true)], args := [d1, d2, d3] }
  | _ => none }
def pointsPartlyRow : OpenClaim := { program := "ytfjhommpgbppjaa", sum := "b1200032fdc042c72448796c86f88a6c820abfa844c1fbd71b57cf46455e3990", func := "manometer/manometerlaw09.PointsPartly", spec := "pointsPartly", unfollowed := true, recurses := true, apart := false }
def PointsPartlySaid : Prop := pointsPartlyRow.holds Try.pinned (OpenSpec.ofChange pointsPartlySpec)

/-- ITS FALSE NEIGHBOUR: 'it returns false'. Refute it at one input. -/
def pointsPartlyWrong : ChangeSpec := { name := "pointsPartly", fn := fun _ => fun
  | [d1, d2, d3] => { results := [.lit (.bool false)], args := [d1, d2, d3] }
  | _ => none }
def PointsPartlyWrongFalsely : Prop := pointsPartlyRow.holds Try.pinned (OpenSpec.ofChange pointsPartlyWrong)

/- THE SECOND FORM. 'bulk': how many values and letters a reading holds, each counted each time it is reached (what is shared counts as often as it is met; a slice's spare places count too). A statement '..UptoSaid' is the law's where the arguments, and the package variables that the reading takes, are together of bulk at most 1048576: NARROWER than '..Said'. Prove '..Said' where nothing that the law and all that it calls make is longer than what came in: it says more and counts as full. Else prove '..UptoSaid'. A law counts once. -/
mutual
def uptoBulk {H : Type} : DataW H → Nat
  | .lit (.string bytes) => bytes.length + 1
  | .lit _ => 1
  | .nil => 1
  | .ptr d => uptoBulk d + 1
  | .slice elems spare => uptoBulkAll elems + uptoBulkAll spare + 1
  | .agg parts => uptoBulkAll parts + 1
  | .iface _ d => uptoBulk d + 1
  | .map entries => uptoBulkEntries entries + 1
  | .held _ => 1
def uptoBulkAll {H : Type} : List (DataW H) → Nat
  | [] => 0
  | d :: r => uptoBulk d + uptoBulkAll r
def uptoBulkEntries {H : Type} : List (Lit × DataW H) → Nat
  | [] => 0
  | x :: r => uptoBulkEntry x + uptoBulkEntries r
def uptoBulkEntry {H : Type} : Lit × DataW H → Nat
  | (.string bytes, d) => bytes.length + uptoBulk d + 1
  | (_, d) => uptoBulk d + 1
 end
def uptoSmall : (H : Type) → List (DataW H) → Bool := fun _ ds => decide (uptoBulkAll ds ≤ 1048576)
def OpenSpec.upto (s : _root_.Go.ChangeSpec) : _root_.Go.OpenSpec := { _root_.Go.OpenSpec.ofChange s with cond := some uptoSmall }

/-- 'manometerlaw09.PointsRights', WHERE WHAT IT READS IS OF BULK AT MOST 1048576: true; the input reads as it did. -/
def pointsRightsUptoRow : OpenClaim := { program := "ytfjhommpgbppjaa", sum := "b1200032fdc042c72448796c86f88a6c820abfa844c1fbd71b57cf46455e3990", func := "manometer/manometerlaw09.PointsRights", spec := "pointsRights", unfollowed := true, recurses := true, apart := false, narrowed := true }
def PointsRightsUptoSaid : Prop := pointsRightsUptoRow.holds Try.pinned (OpenSpec.upto pointsRightsSpec)

/-- 'manometerlaw09.PointsFinds', WHERE WHAT IT READS IS OF BULK AT MOST 1048576: true; the input reads as it did. -/
def pointsFindsUptoRow : OpenClaim := { program := "ytfjhommpgbppjaa", sum := "b1200032fdc042c72448796c86f88a6c820abfa844c1fbd71b57cf46455e3990", func := "manometer/manometerlaw09.PointsFinds", spec := "pointsFinds", unfollowed := true, recurses := true, apart := false, narrowed := true }
def PointsFindsUptoSaid : Prop := pointsFindsUptoRow.holds Try.pinned (OpenSpec.upto pointsFindsSpec)

/-- 'manometerlaw09.PointsPuts', WHERE WHAT IT READS IS OF BULK AT MOST 1048576: true; the input reads as it did. -/
def pointsPutsUptoRow : OpenClaim := { program := "ytfjhommpgbppjaa", sum := "b1200032fdc042c72448796c86f88a6c820abfa844c1fbd71b57cf46455e3990", func := "manometer/manometerlaw09.PointsPuts", spec := "pointsPuts", unfollowed := true, recurses := true, apart := false, narrowed := true }
def PointsPutsUptoSaid : Prop := pointsPutsUptoRow.holds Try.pinned (OpenSpec.upto pointsPutsSpec)

/-- 'manometerlaw09.PointsStays', WHERE WHAT IT READS IS OF BULK AT MOST 1048576: true; the input reads as it did. -/
def pointsStaysUptoRow : OpenClaim := { program := "ytfjhommpgbppjaa", sum := "b1200032fdc042c72448796c86f88a6c820abfa844c1fbd71b57cf46455e3990", func := "manometer/manometerlaw09.PointsStays", spec := "pointsStays", unfollowed := true, recurses := true, apart := false, narrowed := true }
def PointsStaysUptoSaid : Prop := pointsStaysUptoRow.holds Try.pinned (OpenSpec.upto pointsStaysSpec)

/-- 'manometerlaw09.PointsParts', WHERE WHAT IT READS IS OF BULK AT MOST 1048576: true; the input reads as it did. -/
def pointsPartsUptoRow : OpenClaim := { program := "ytfjhommpgbppjaa", sum := "b1200032fdc042c72448796c86f88a6c820abfa844c1fbd71b57cf46455e3990", func := "manometer/manometerlaw09.PointsParts", spec := "pointsParts", unfollowed := true, recurses := true, apart := false, narrowed := true }
def PointsPartsUptoSaid : Prop := pointsPartsUptoRow.holds Try.pinned (OpenSpec.upto pointsPartsSpec)

/-- 'manometerlaw09.PointsMerges', WHERE WHAT IT READS IS OF BULK AT MOST 1048576: true; the input reads as it did. -/
def pointsMergesUptoRow : OpenClaim := { program := "ytfjhommpgbppjaa", sum := "b1200032fdc042c72448796c86f88a6c820abfa844c1fbd71b57cf46455e3990", func := "manometer/manometerlaw09.PointsMerges", spec := "pointsMerges", unfollowed := true, recurses := true, apart := false, narrowed := true }
def PointsMergesUptoSaid : Prop := pointsMergesUptoRow.holds Try.pinned (OpenSpec.upto pointsMergesSpec)

/-- 'manometerlaw09.PointsOrder', WHERE WHAT IT READS IS OF BULK AT MOST 1048576: true; the input reads as it did. -/
def pointsOrderUptoRow : OpenClaim := { program := "ytfjhommpgbppjaa", sum := "b1200032fdc042c72448796c86f88a6c820abfa844c1fbd71b57cf46455e3990", func := "manometer/manometerlaw09.PointsOrder", spec := "pointsOrder", unfollowed := true, recurses := true, apart := false, narrowed := true }
def PointsOrderUptoSaid : Prop := pointsOrderUptoRow.holds Try.pinned (OpenSpec.upto pointsOrderSpec)

/-- 'manometerlaw09.PointsFolds', WHERE WHAT IT READS IS OF BULK AT MOST 1048576: true; the input reads as it did. -/
def pointsFoldsUptoRow : OpenClaim := { program := "ytfjhommpgbppjaa", sum := "b1200032fdc042c72448796c86f88a6c820abfa844c1fbd71b57cf46455e3990", func := "manometer/manometerlaw09.PointsFolds", spec := "pointsFolds", unfollowed := true, recurses := true, apart := false, narrowed := true }
def PointsFoldsUptoSaid : Prop := pointsFoldsUptoRow.holds Try.pinned (OpenSpec.upto pointsFoldsSpec)

/-- 'manometerlaw09.PointsPartly', WHERE WHAT IT READS IS OF BULK AT MOST 1048576: true; the input reads as it did. -/
def pointsPartlyUptoRow : OpenClaim := { program := "ytfjhommpgbppjaa", sum := "b1200032fdc042c72448796c86f88a6c820abfa844c1fbd71b57cf46455e3990", func := "manometer/manometerlaw09.PointsPartly", spec := "pointsPartly", unfollowed := true, recurses := true, apart := false, narrowed := true }
def PointsPartlyUptoSaid : Prop := pointsPartlyUptoRow.holds Try.pinned (OpenSpec.upto pointsPartlySpec)

end Rows
end Go.Proofs.Ytfjhommpgbppjaa
