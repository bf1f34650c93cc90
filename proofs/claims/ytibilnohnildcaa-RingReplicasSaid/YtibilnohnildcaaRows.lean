/-
  No cell of these rows narrows 'for every input' (looked for: loops, veiled, ifaces, maps, wideKeys, modest, calm, conditions, laid).
  DERIVED. THE GIVEN ROWS OF THIS SEAT. 7 by the template 'for every input the law returns true; each argument reads behind the call as it read before'; 0 by the template 'total and deterministic' (their statements: YtibilnohnildcaaTotals.lean).
  GIVEN WITH THE SEED: the statements are not yours to turn. If you find one false, say at which input.
  Laid BY PROGRAM, IN A SANDBOX (cutbox-rows.mjs): the forced cells as the released guide's own fill.sh prints them over the translation f07e82f0d546497a… (all of the seat's roots in one cut). By AI agents, Wed Nov 11 2026. No macro, syntax, notation, axiom, sorry.
-/
import Derived.Test.YtibilnohnildcaaChecked
import GoSem.Claim
import GoSem.ClaimJoined
import GoSem.ClaimMapViews
import Derived.JoinedTies
import Derived.KernelRfl
namespace Go.Proofs.Ytibilnohnildcaa
/- THE CELL 'sum', in the pinned program and in every row, IS THE sha256 OF THE DUMP (.gsa) THAT YtibilnohnildcaaProg.lean LOADS. Nothing in Lean hashes anything: it is a label: what it is worth is what the hold of that sum in a sandbox is worth. -/
noncomputable def Try.pinned : Pinned := { name := "ytibilnohnildcaa", sum := "f07e82f0d546497a8256c604597fe9c8b0a602a9d308b690fbc5e9eb41f1b935", checked := Try.checked }
namespace Rows
def none {H : Type} : Left H := { results := [], args := [] }

/-- 'manometerlaw20.RingSubs': WHATEVER THE INPUT: true; the input reads as it did. -/
def ringSubsSpec : ChangeSpec := { name := "ringSubs", fn := fun _ => fun
  | [d1, d2, d3] => { results := [.lit (.bool true)], args := [d1, d2, d3] }
  | _ => none }
def ringSubsRow : OpenClaim := { program := "ytibilnohnildcaa", sum := "f07e82f0d546497a8256c604597fe9c8b0a602a9d308b690fbc5e9eb41f1b935", func := "manometer/manometerlaw20.RingSubs", spec := "ringSubs", unfollowed := true, recurses := true, apart := false }
def RingSubsSaid : Prop := ringSubsRow.holds Try.pinned (OpenSpec.ofChange ringSubsSpec)

/-- ITS FALSE NEIGHBOUR: 'it returns false'. Refute it at one input. -/
def ringSubsWrong : ChangeSpec := { name := "ringSubs", fn := fun _ => fun
  | [d1, d2, d3] => { results := [.lit (.bool false)], args := [d1, d2, d3] }
  | _ => none }
def RingSubsWrongFalsely : Prop := ringSubsRow.holds Try.pinned (OpenSpec.ofChange ringSubsWrong)

/-- 'manometerlaw20.RingReplicas': WHATEVER THE INPUT: true; the input reads as it did. -/
def ringReplicasSpec : ChangeSpec := { name := "ringReplicas", fn := fun _ => fun
  | [d1, d2, d3] => { results := [.lit (.bool true)], args := [d1, d2, d3] }
  | _ => none }
def ringReplicasRow : OpenClaim := { program := "ytibilnohnildcaa", sum := "f07e82f0d546497a8256c604597fe9c8b0a602a9d308b690fbc5e9eb41f1b935", func := "manometer/manometerlaw20.RingReplicas", spec := "ringReplicas", unfollowed := true, recurses := true, apart := false }
def RingReplicasSaid : Prop := ringReplicasRow.holds Try.pinned (OpenSpec.ofChange ringReplicasSpec)

/-- ITS FALSE NEIGHBOUR: 'it returns false'. Refute it at one input. -/
def ringReplicasWrong : ChangeSpec := { name := "ringReplicas", fn := fun _ => fun
  | [d1, d2, d3] => { results := [.lit (.bool false)], args := [d1, d2, d3] }
  | _ => none }
def RingReplicasWrongFalsely : Prop := ringReplicasRow.holds Try.pinned (OpenSpec.ofChange ringReplicasWrong)

/-- 'manometerlaw20.RingGrows': WHATEVER THE INPUT: true; the input reads as it did. -/
def ringGrowsSpec : ChangeSpec := { name := "ringGrows", fn := fun _ => fun
  | [d1, d2, d3] => { results := [.lit (.bool true)], args := [d1, d2, d3] }
  | _ => none }
def ringGrowsRow : OpenClaim := { program := "ytibilnohnildcaa", sum := "f07e82f0d546497a8256c604597fe9c8b0a602a9d308b690fbc5e9eb41f1b935", func := "manometer/manometerlaw20.RingGrows", spec := "ringGrows", unfollowed := true, recurses := true, apart := false }
def RingGrowsSaid : Prop := ringGrowsRow.holds Try.pinned (OpenSpec.ofChange ringGrowsSpec)

/-- ITS FALSE NEIGHBOUR: 'it returns false'. Refute it at one input. -/
def ringGrowsWrong : ChangeSpec := { name := "ringGrows", fn := fun _ => fun
  | [d1, d2, d3] => { results := [.lit (.bool false)], args := [d1, d2, d3] }
  | _ => none }
def RingGrowsWrongFalsely : Prop := ringGrowsRow.holds Try.pinned (OpenSpec.ofChange ringGrowsWrong)

/-- 'manometerlaw20.RingMoves': WHATEVER THE INPUT: true; the input reads as it did. -/
def ringMovesSpec : ChangeSpec := { name := "ringMoves", fn := fun _ => fun
  | [d1, d2, d3, d4] => { results := [.lit (.bool true)], args := [d1, d2, d3, d4] }
  | _ => none }
def ringMovesRow : OpenClaim := { program := "ytibilnohnildcaa", sum := "f07e82f0d546497a8256c604597fe9c8b0a602a9d308b690fbc5e9eb41f1b935", func := "manometer/manometerlaw20.RingMoves", spec := "ringMoves", unfollowed := true, recurses := true, apart := false }
def RingMovesSaid : Prop := ringMovesRow.holds Try.pinned (OpenSpec.ofChange ringMovesSpec)

/-- ITS FALSE NEIGHBOUR: 'it returns false'. Refute it at one input. -/
def ringMovesWrong : ChangeSpec := { name := "ringMoves", fn := fun _ => fun
  | [d1, d2, d3, d4] => { results := [.lit (.bool false)], args := [d1, d2, d3, d4] }
  | _ => none }
def RingMovesWrongFalsely : Prop := ringMovesRow.holds Try.pinned (OpenSpec.ofChange ringMovesWrong)

/-- 'manometerlaw20.RingOwns': WHATEVER THE INPUT: true; the input reads as it did. -/
def ringOwnsSpec : ChangeSpec := { name := "ringOwns", fn := fun _ => fun
  | [d1, d2, d3, d4] => { results := [.lit (.bool true)], args := [d1, d2, d3, d4] }
  | _ => none }
def ringOwnsRow : OpenClaim := { program := "ytibilnohnildcaa", sum := "f07e82f0d546497a8256c604597fe9c8b0a602a9d308b690fbc5e9eb41f1b935", func := "manometer/manometerlaw20.RingOwns", spec := "ringOwns", unfollowed := true, recurses := true, apart := false }
def RingOwnsSaid : Prop := ringOwnsRow.holds Try.pinned (OpenSpec.ofChange ringOwnsSpec)

/-- ITS FALSE NEIGHBOUR: 'it returns false'. Refute it at one input. -/
def ringOwnsWrong : ChangeSpec := { name := "ringOwns", fn := fun _ => fun
  | [d1, d2, d3, d4] => { results := [.lit (.bool false)], args := [d1, d2, d3, d4] }
  | _ => none }
def RingOwnsWrongFalsely : Prop := ringOwnsRow.holds Try.pinned (OpenSpec.ofChange ringOwnsWrong)

/-- 'manometerlaw20.RingThree': WHATEVER THE INPUT: true; the input reads as it did. -/
def ringThreeSpec : ChangeSpec := { name := "ringThree", fn := fun _ => fun
  | [d1, d2, d3, d4] => { results := [.lit (.bool true)], args := [d1, d2, d3, d4] }
  | _ => none }
def ringThreeRow : OpenClaim := { program := "ytibilnohnildcaa", sum := "f07e82f0d546497a8256c604597fe9c8b0a602a9d308b690fbc5e9eb41f1b935", func := "manometer/manometerlaw20.RingThree", spec := "ringThree", unfollowed := true, recurses := true, apart := false }
def RingThreeSaid : Prop := ringThreeRow.holds Try.pinned (OpenSpec.ofChange ringThreeSpec)

/-- ITS FALSE NEIGHBOUR: 'it returns false'. Refute it at one input. -/
def ringThreeWrong : ChangeSpec := { name := "ringThree", fn := fun _ => fun
  | [d1, d2, d3, d4] => { results := [.lit (.bool false)], args := [d1, d2, d3, d4] }
  | _ => none }
def RingThreeWrongFalsely : Prop := ringThreeRow.holds Try.pinned (OpenSpec.ofChange ringThreeWrong)

/-- 'manometerlaw20.RingNone': WHATEVER THE INPUT: true; the input reads as it did. -/
def ringNoneSpec : ChangeSpec := { name := "ringNone", fn := fun _ => fun
  | [d1, d2, d3] => { results := [.lit (.bool true)], args := [d1, d2, d3] }
  | _ => none }
def ringNoneRow : OpenClaim := { program := "ytibilnohnildcaa", sum := "f07e82f0d546497a8256c604597fe9c8b0a602a9d308b690fbc5e9eb41f1b935", func := "manometer/manometerlaw20.RingNone", spec := "ringNone", unfollowed := true, recurses := true, apart := false }
def RingNoneSaid : Prop := ringNoneRow.holds Try.pinned (OpenSpec.ofChange ringNoneSpec)

/-- ITS FALSE NEIGHBOUR: 'it returns false'. Refute it at one input. -/
def ringNoneWrong : ChangeSpec := { name := "ringNone", fn := fun _ => fun
  | [d1, d2, d3] => { results := [.lit (.bool false)], args := [d1, d2, d3] }
  | _ => none }
def RingNoneWrongFalsely : Prop := ringNoneRow.holds Try.pinned (OpenSpec.ofChange ringNoneWrong)

/- THE SECOND FORM. 'bulk': how many values and letters a reading holds, each counted each time it is reached (what is shared counts as often as it is met; a slice's spare places count too). A statement '..UptoSaid' is the law's where the arguments, and the package variables that the reading takes, are together of bulk at most 1048576: NARROWER than '..Said'. Prove '..Said' where nothing that the law and all that it calls make is longer than what came in: it says more and counts as full. Else prove '..UptoSaid'. A law counts once. -/
mutual
def uptoBulk {H : Type} : DataW H → Nat
  | .lit (.string bytes) => bytes.length + 1
  | .lit _ => 1
  | .nil => 1
  | .ptr d => uptoBulk d + 1
  | .slice elems spare => uptoBulkAll elems + uptoBulkAll spare + 1
  | .agg parts => uptoBulkAll parts + 1
  | .iface _ d => uptoBulk d + 1
  | .map entries => uptoBulkEntries entries + 1
  | .held _ => 1
def uptoBulkAll {H : Type} : List (DataW H) → Nat
  | [] => 0
  | d :: r => uptoBulk d + uptoBulkAll r
def uptoBulkEntries {H : Type} : List (Lit × DataW H) → Nat
  | [] => 0
  | x :: r => uptoBulkEntry x + uptoBulkEntries r
def uptoBulkEntry {H : Type} : Lit × DataW H → Nat
  | (.string bytes, d) => bytes.length + uptoBulk d + 1
  | (_, d) => uptoBulk d + 1
 end
def uptoSmall : (H : Type) → List (DataW H) → Bool := fun _ ds => decide (uptoBulkAll ds ≤ 1048576)
def OpenSpec.upto (s : _root_.Go.ChangeSpec) : _root_.Go.OpenSpec := { _root_.Go.OpenSpec.ofChange s with cond := some uptoSmall }

/-- 'manometerlaw20.RingSubs', WHERE WHAT IT READS IS OF BULK AT MOST 1048576: true; the input reads as it did. -/
def ringSubsUptoRow : OpenClaim := { program := "ytibilnohnildcaa", sum := "f07e82f0d546497a8256c604597fe9c8b0a602a9d308b690fbc5e9eb41f1b935", func := "manometer/manometerlaw20.RingSubs", spec := "ringSubs", unfollowed := true, recurses := true, apart := false, narrowed := true }
def RingSubsUptoSaid : Prop := ringSubsUptoRow.holds Try.pinned (OpenSpec.upto ringSubsSpec)

/-- 'manometerlaw20.RingReplicas', WHERE WHAT IT READS IS OF BULK AT MOST 1048576: true; the input reads as it did. -/
def ringReplicasUptoRow : OpenClaim := { program := "ytibilnohnildcaa", sum := "f07e82f0d546497a8256c604597fe9c8b0a602a9d308b690fbc5e9eb41f1b935", func := "manometer/manometerlaw20.RingReplicas", spec := "ringReplicas", unfollowed := true, recurses := true, apart := false, narrowed := true }
def RingReplicasUptoSaid : Prop := ringReplicasUptoRow.holds Try.pinned (OpenSpec.upto ringReplicasSpec)

/-- 'manometerlaw20.RingGrows', WHERE WHAT IT READS IS OF BULK AT MOST 1048576: true; the input reads as it did. -/
def ringGrowsUptoRow : OpenClaim := { program := "ytibilnohnildcaa", sum := "f07e82f0d546497a8256c604597fe9c8b0a602a9d308b690fbc5e9eb41f1b935", func := "manometer/manometerlaw20.RingGrows", spec := "ringGrows", unfollowed := true, recurses := true, apart := false, narrowed := true }
def RingGrowsUptoSaid : Prop := ringGrowsUptoRow.holds Try.pinned (OpenSpec.upto ringGrowsSpec)

/-- 'manometerlaw20.RingMoves', WHERE WHAT IT READS IS OF BULK AT MOST 1048576: true; the input reads as it did. -/
def ringMovesUptoRow : OpenClaim := { program := "ytibilnohnildcaa", sum := "f07e82f0d546497a8256c604597fe9c8b0a602a9d308b690fbc5e9eb41f1b935", func := "manometer/manometerlaw20.RingMoves", spec := "ringMoves", unfollowed := true, recurses := true, apart := false, narrowed := true }
def RingMovesUptoSaid : Prop := ringMovesUptoRow.holds Try.pinned (OpenSpec.upto ringMovesSpec)

/-- 'manometerlaw20.RingOwns', WHERE WHAT IT READS IS OF BULK AT MOST 1048576: true; the input reads as it did. -/
def ringOwnsUptoRow : OpenClaim := { program := "ytibilnohnildcaa", sum := "f07e82f0d546497a8256c604597fe9c8b0a602a9d308b690fbc5e9eb41f1b935", func := "manometer/manometerlaw20.RingOwns", spec := "ringOwns", unfollowed := true, recurses := true, apart := false, narrowed := true }
def RingOwnsUptoSaid : Prop := ringOwnsUptoRow.holds Try.pinned (OpenSpec.upto ringOwnsSpec)

/-- 'manometerlaw20.RingThree', WHERE WHAT IT READS IS OF BULK AT MOST 1048576: true; the input reads as it did. -/
def ringThreeUptoRow : OpenClaim := { program := "ytibilnohnildcaa", sum := "f07e82f0d546497a8256c604597fe9c8b0a602a9d308b690fbc5e9eb41f1b935", func := "manometer/manometerlaw20.RingThree", spec := "ringThree", unfollowed := true, recurses := true, apart := false, narrowed := true }
def RingThreeUptoSaid : Prop := ringThreeUptoRow.holds Try.pinned (OpenSpec.upto ringThreeSpec)

/-- 'manometerlaw20.RingNone', WHERE WHAT IT READS IS OF BULK AT MOST 1048576: true; the input reads as it did. -/
def ringNoneUptoRow : OpenClaim := { program := "ytibilnohnildcaa", sum := "f07e82f0d546497a8256c604597fe9c8b0a602a9d308b690fbc5e9eb41f1b935", func := "manometer/manometerlaw20.RingNone", spec := "ringNone", unfollowed := true, recurses := true, apart := false, narrowed := true }
def RingNoneUptoSaid : Prop := ringNoneUptoRow.holds Try.pinned (OpenSpec.upto ringNoneSpec)

end Rows
end Go.Proofs.Ytibilnohnildcaa
