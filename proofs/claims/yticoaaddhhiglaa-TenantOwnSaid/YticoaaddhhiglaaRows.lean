/-
  No cell of these rows narrows 'for every input' (looked for: loops, veiled, ifaces, maps, wideKeys, modest, calm, conditions, laid).
  DERIVED. THE GIVEN ROWS OF THIS SEAT. 6 by the template 'for every input the law returns true; each argument reads behind the call as it read before'; 0 by the template 'total and deterministic' (their statements: YticoaaddhhiglaaTotals.lean).
  GIVEN WITH THE SEED: the statements are not yours to turn. If you find one false, say at which input.
  Laid BY PROGRAM, IN A SANDBOX (cutbox-rows.mjs): the forced cells as the released guide's own fill.sh prints them over the translation 1fd2dde162819472… (all of the seat's roots in one cut). By AI agents, Wed Nov 11 2026. No macro, syntax, notation, axiom, sorry.
-/
import Derived.Test.YticoaaddhhiglaaChecked
import GoSem.Claim
import GoSem.ClaimJoined
import GoSem.ClaimMapViews
import Derived.JoinedTies
import Derived.KernelRfl
namespace Go.Proofs.Yticoaaddhhiglaa
/- THE CELL 'sum', in the pinned program and in every row, IS THE sha256 OF THE DUMP (.gsa) THAT YticoaaddhhiglaaProg.lean LOADS. Nothing in Lean hashes anything: it is a label: what it is worth is what the hold of that sum in a sandbox is worth. -/
noncomputable def Try.pinned : Pinned := { name := "yticoaaddhhiglaa", sum := "1fd2dde1628194723b8f508e2e30538fdfd199ca3ec7716fc950d601ac8a3ce2", checked := Try.checked }
namespace Rows
def none {H : Type} : Left H := { results := [], args := [] }

/-- 'manometerlaw18.TenantRight': WHATEVER THE INPUT: true; the input reads as it did. -/
def tenantRightSpec : ChangeSpec := { name := "tenantRight", fn := fun _ => fun
  | [d] => { results := [.lit (.bool true)], args := [d] }
  | _ => none }
def tenantRightRow : OpenClaim := { program := "yticoaaddhhiglaa", sum := "1fd2dde1628194723b8f508e2e30538fdfd199ca3ec7716fc950d601ac8a3ce2", func := "manometer/manometerlaw18.TenantRight", spec := "tenantRight", unfollowed := true, recurses := true, apart := false }
def TenantRightSaid : Prop := tenantRightRow.holds Try.pinned (OpenSpec.ofChange tenantRightSpec)

/-- ITS FALSE NEIGHBOUR: 'it returns false'. Refute it at one input. -/
def tenantRightWrong : ChangeSpec := { name := "tenantRight", fn := fun _ => fun
  | [d] => { results := [.lit (.bool false)], args := [d] }
  | _ => none }
def TenantRightWrongFalsely : Prop := tenantRightRow.holds Try.pinned (OpenSpec.ofChange tenantRightWrong)

/-- 'manometerlaw18.TenantTurns': WHATEVER THE INPUT: true; the input reads as it did. -/
def tenantTurnsSpec : ChangeSpec := { name := "tenantTurns", fn := fun _ => fun
  | [d1, d2, d3] => { results := [.lit (.bool true)], args := [d1, d2, d3] }
  | _ => none }
def tenantTurnsRow : OpenClaim := { program := "yticoaaddhhiglaa", sum := "1fd2dde1628194723b8f508e2e30538fdfd199ca3ec7716fc950d601ac8a3ce2", func := "manometer/manometerlaw18.TenantTurns", spec := "tenantTurns", unfollowed := true, recurses := true, apart := false }
def TenantTurnsSaid : Prop := tenantTurnsRow.holds Try.pinned (OpenSpec.ofChange tenantTurnsSpec)

/-- ITS FALSE NEIGHBOUR: 'it returns false'. Refute it at one input. -/
def tenantTurnsWrong : ChangeSpec := { name := "tenantTurns", fn := fun _ => fun
  | [d1, d2, d3] => { results := [.lit (.bool false)], args := [d1, d2, d3] }
  | _ => none }
def TenantTurnsWrongFalsely : Prop := tenantTurnsRow.holds Try.pinned (OpenSpec.ofChange tenantTurnsWrong)

/-- 'manometerlaw18.TenantApart': WHATEVER THE INPUT: true; the input reads as it did. -/
def tenantApartSpec : ChangeSpec := { name := "tenantApart", fn := fun _ => fun
  | [d1, d2] => { results := [.lit (.bool true)], args := [d1, d2] }
  | _ => none }
def tenantApartRow : OpenClaim := { program := "yticoaaddhhiglaa", sum := "1fd2dde1628194723b8f508e2e30538fdfd199ca3ec7716fc950d601ac8a3ce2", func := "manometer/manometerlaw18.TenantApart", spec := "tenantApart", unfollowed := true, recurses := true, apart := false }
def TenantApartSaid : Prop := tenantApartRow.holds Try.pinned (OpenSpec.ofChange tenantApartSpec)

/-- ITS FALSE NEIGHBOUR: 'it returns false'. Refute it at one input. -/
def tenantApartWrong : ChangeSpec := { name := "tenantApart", fn := fun _ => fun
  | [d1, d2] => { results := [.lit (.bool false)], args := [d1, d2] }
  | _ => none }
def TenantApartWrongFalsely : Prop := tenantApartRow.holds Try.pinned (OpenSpec.ofChange tenantApartWrong)

/-- 'manometerlaw18.TenantDoes': WHATEVER THE INPUT: true; the input reads as it did. -/
def tenantDoesSpec : ChangeSpec := { name := "tenantDoes", fn := fun _ => fun
  | [d1, d2, d3] => { results := [.lit (.bool true)], args := [d1, d2, d3] }
  | _ => none }
def tenantDoesRow : OpenClaim := { program := "yticoaaddhhiglaa", sum := "1fd2dde1628194723b8f508e2e30538fdfd199ca3ec7716fc950d601ac8a3ce2", func := "manometer/manometerlaw18.TenantDoes", spec := "tenantDoes", unfollowed := true, recurses := true, apart := false }
def TenantDoesSaid : Prop := tenantDoesRow.holds Try.pinned (OpenSpec.ofChange tenantDoesSpec)

/-- ITS FALSE NEIGHBOUR: 'it returns false'. Refute it at one input. -/
def tenantDoesWrong : ChangeSpec := { name := "tenantDoes", fn := fun _ => fun
  | [d1, d2, d3] => { results := [.lit (.bool false)], args := [d1, d2, d3] }
  | _ => none }
def TenantDoesWrongFalsely : Prop := tenantDoesRow.holds Try.pinned (OpenSpec.ofChange tenantDoesWrong)

/-- 'manometerlaw18.TenantKept': WHATEVER THE INPUT: true; the input reads as it did. -/
def tenantKeptSpec : ChangeSpec := { name := "tenantKept", fn := fun _ => fun
  | [d] => { results := [.lit (.bool true)], args := [d] }
  | _ => none }
def tenantKeptRow : OpenClaim := { program := "yticoaaddhhiglaa", sum := "1fd2dde1628194723b8f508e2e30538fdfd199ca3ec7716fc950d601ac8a3ce2", func := "manometer/manometerlaw18.TenantKept", spec := "tenantKept", unfollowed := true, recurses := true, apart := false }
def TenantKeptSaid : Prop := tenantKeptRow.holds Try.pinned (OpenSpec.ofChange tenantKeptSpec)

/-- ITS FALSE NEIGHBOUR: 'it returns false'. Refute it at one input. -/
def tenantKeptWrong : ChangeSpec := { name := "tenantKept", fn := fun _ => fun
  | [d] => { results := [.lit (.bool false)], args := [d] }
  | _ => none }
def TenantKeptWrongFalsely : Prop := tenantKeptRow.holds Try.pinned (OpenSpec.ofChange tenantKeptWrong)

/-- 'manometerlaw18.TenantOwn': WHATEVER THE INPUT: true; the input reads as it did. -/
def tenantOwnSpec : ChangeSpec := { name := "tenantOwn", fn := fun _ => fun
  | [d1, d2] => { results := [.lit (.bool true)], args := [d1, d2] }
  | _ => none }
def tenantOwnRow : OpenClaim := { program := "yticoaaddhhiglaa", sum := "1fd2dde1628194723b8f508e2e30538fdfd199ca3ec7716fc950d601ac8a3ce2", func := "manometer/manometerlaw18.TenantOwn", spec := "tenantOwn", unfollowed := true, recurses := true, apart := false }
def TenantOwnSaid : Prop := tenantOwnRow.holds Try.pinned (OpenSpec.ofChange tenantOwnSpec)

/-- ITS FALSE NEIGHBOUR: 'it returns false'. Refute it at one input. -/
def tenantOwnWrong : ChangeSpec := { name := "tenantOwn", fn := fun _ => fun
  | [d1, d2] => { results := [.lit (.bool false)], args := [d1, d2] }
  | _ => none }
def TenantOwnWrongFalsely : Prop := tenantOwnRow.holds Try.pinned (OpenSpec.ofChange tenantOwnWrong)

/- THE SECOND FORM. 'bulk': how many values and letters a reading holds, each counted each time it is reached (what is shared counts as often as it is met; a slice's spare places count too). A statement '..UptoSaid' is the law's where the arguments, and the package variables that the reading takes, are together of bulk at most 1048576: NARROWER than '..Said'. Prove '..Said' where nothing that the law and all that it calls make is longer than what came in: it says more and counts as full. Else prove '..UptoSaid'. A law counts once. -/
mutual
def uptoBulk {H : Type} : DataW H → Nat
  | .lit (.string bytes) => bytes.length + 1
  | .lit _ => 1
  | .nil => 1
  | .ptr d => uptoBulk d + 1
  | .slice elems spare => uptoBulkAll elems + uptoBulkAll spare + 1
  | .agg parts => uptoBulkAll parts + 1
  | .iface _ d => uptoBulk d + 1
  | .map entries => uptoBulkEntries entries + 1
  | .held _ => 1
def uptoBulkAll {H : Type} : List (DataW H) → Nat
  | [] => 0
  | d :: r => uptoBulk d + uptoBulkAll r
def uptoBulkEntries {H : Type} : List (Lit × DataW H) → Nat
  | [] => 0
  | x :: r => uptoBulkEntry x + uptoBulkEntries r
def uptoBulkEntry {H : Type} : Lit × DataW H → Nat
  | (.string bytes, d) => bytes.length + uptoBulk d + 1
  | (_, d) => uptoBulk d + 1
 end
def uptoSmall : (H : Type) → List (DataW H) → Bool := fun _ ds => decide (uptoBulkAll ds ≤ 1048576)
def OpenSpec.upto (s : _root_.Go.ChangeSpec) : _root_.Go.OpenSpec := { _root_.Go.OpenSpec.ofChange s with cond := some uptoSmall }

/-- 'manometerlaw18.TenantRight', WHERE WHAT IT READS IS OF BULK AT MOST 1048576: true; the input reads as it did. -/
def tenantRightUptoRow : OpenClaim := { program := "yticoaaddhhiglaa", sum := "1fd2dde1628194723b8f508e2e30538fdfd199ca3ec7716fc950d601ac8a3ce2", func := "manometer/manometerlaw18.TenantRight", spec := "tenantRight", unfollowed := true, recurses := true, apart := false, narrowed := true }
def TenantRightUptoSaid : Prop := tenantRightUptoRow.holds Try.pinned (OpenSpec.upto tenantRightSpec)

/-- 'manometerlaw18.TenantTurns', WHERE WHAT IT READS IS OF BULK AT MOST 1048576: true; the input reads as it did. -/
def tenantTurnsUptoRow : OpenClaim := { program := "yticoaaddhhiglaa", sum := "1fd2dde1628194723b8f508e2e30538fdfd199ca3ec7716fc950d601ac8a3ce2", func := "manometer/manometerlaw18.TenantTurns", spec := "tenantTurns", unfollowed := true, recurses := true, apart := false, narrowed := true }
def TenantTurnsUptoSaid : Prop := tenantTurnsUptoRow.holds Try.pinned (OpenSpec.upto tenantTurnsSpec)

/-- 'manometerlaw18.TenantApart', WHERE WHAT IT READS IS OF BULK AT MOST 1048576: true; the input reads as it did. -/
def tenantApartUptoRow : OpenClaim := { program := "yticoaaddhhiglaa", sum := "1fd2dde1628194723b8f508e2e30538fdfd199ca3ec7716fc950d601ac8a3ce2", func := "manometer/manometerlaw18.TenantApart", spec := "tenantApart", unfollowed := true, recurses := true, apart := false, narrowed := true }
def TenantApartUptoSaid : Prop := tenantApartUptoRow.holds Try.pinned (OpenSpec.upto tenantApartSpec)

/-- 'manometerlaw18.TenantDoes', WHERE WHAT IT READS IS OF BULK AT MOST 1048576: true; the input reads as it did. -/
def tenantDoesUptoRow : OpenClaim := { program := "yticoaaddhhiglaa", sum := "1fd2dde1628194723b8f508e2e30538fdfd199ca3ec7716fc950d601ac8a3ce2", func := "manometer/manometerlaw18.TenantDoes", spec := "tenantDoes", unfollowed := true, recurses := true, apart := false, narrowed := true }
def TenantDoesUptoSaid : Prop := tenantDoesUptoRow.holds Try.pinned (OpenSpec.upto tenantDoesSpec)

/-- 'manometerlaw18.TenantKept', WHERE WHAT IT READS IS OF BULK AT MOST 1048576: true; the input reads as it did. -/
def tenantKeptUptoRow : OpenClaim := { program := "yticoaaddhhiglaa", sum := "1fd2dde1628194723b8f508e2e30538fdfd199ca3ec7716fc950d601ac8a3ce2", func := "manometer/manometerlaw18.TenantKept", spec := "tenantKept", unfollowed := true, recurses := true, apart := false, narrowed := true }
def TenantKeptUptoSaid : Prop := tenantKeptUptoRow.holds Try.pinned (OpenSpec.upto tenantKeptSpec)

/-- 'manometerlaw18.TenantOwn', WHERE WHAT IT READS IS OF BULK AT MOST 1048576: true; the input reads as it did. -/
def tenantOwnUptoRow : OpenClaim := { program := "yticoaaddhhiglaa", sum := "1fd2dde1628194723b8f508e2e30538fdfd199ca3ec7716fc950d601ac8a3ce2", func := "manometer/manometerlaw18.TenantOwn", spec := "tenantOwn", unfollowed := true, recurses := true, apart := false, narrowed := true }
def TenantOwnUptoSaid : Prop := tenantOwnUptoRow.holds Try.pinned (OpenSpec.upto tenantOwnSpec)

end Rows
end Go.Proofs.Yticoaaddhhiglaa
