/-
  NARROWER THAN 'FOR EVERY INPUT', by the rows' own cells (each row's printed sentence says how): RexMatches: laid · RexQuotes: laid · RexEither: laid · RexStars: laid · RexValues: laid · RexNone: laid.
  DERIVED. THE GIVEN ROWS OF THIS SEAT. 6 by the template 'for every input the law returns true; each argument reads behind the call as it read before'; 0 by the template 'total and deterministic' (their statements: YtmfpikhmeacnbaaDoorTotals.lean).
  GIVEN WITH THE SEED: the statements are not yours to turn. If you find one false, say at which input.
  Laid BY PROGRAM, IN A SANDBOX (cutbox-rows.mjs): the forced cells as the released guide's own fill.sh prints them over the translation 1b9a106f4c8cd942… (all of the seat's roots in one cut). By AI agents, Wed Nov 11 2026. No macro, syntax, notation, axiom, sorry.
-/
import Derived.Test.YtmfpikhmeacnbaaDoorChecked
import GoSem.PinnedTables
import GoSem.Claim
import GoSem.ClaimJoined
import GoSem.ClaimMapViews
import Derived.JoinedTies
import Derived.KernelRfl
namespace Go.Proofs.YtmfpikhmeacnbaaDoor
/- THE CELL 'sum', in the pinned program and in every row, IS THE sha256 OF THE DUMP (.gsa) THAT YtmfpikhmeacnbaaDoorProg.lean LOADS. Nothing in Lean hashes anything: it is a label: what it is worth is what the hold of that sum in a sandbox is worth. -/
noncomputable def Tryd.pinned : Pinned := { name := "ytmfpikhmeacnbaadoor", sum := "1b9a106f4c8cd942f1b3ef708c8f4ee2185f0122ad997874356f4ce39695fa42", checked := Tryd.checked }
namespace Rows
def none {H : Type} : Left H := { results := [], args := [] }

/- WHAT THE LISTED PACKAGE-LEVEL VARIABLES READ AS WHEN THE CALL BEGINS. Each datum BY PROGRAM (the guide's laid-datum.mjs) off the statement by which the dump's own 'gosem.cut.vars' lays the variable. In a bare row this is a premise. The card (YtmfpikhmeacnbaaDoorCards.lean) ties it to the program's text. -/
def laid_unicode_utf8_acceptRanges {H : Type} : DataW H := .agg [.agg [.lit (.int .u8 128), .lit (.int .u8 191)], .agg [.lit (.int .u8 160), .lit (.int .u8 191)], .agg [.lit (.int .u8 128), .lit (.int .u8 159)], .agg [.lit (.int .u8 144), .lit (.int .u8 191)], .agg [.lit (.int .u8 128), .lit (.int .u8 143)], .agg [.lit (.int .u8 0), .lit (.int .u8 0)], .agg [.lit (.int .u8 0), .lit (.int .u8 0)], .agg [.lit (.int .u8 0), .lit (.int .u8 0)], .agg [.lit (.int .u8 0), .lit (.int .u8 0)], .agg [.lit (.int .u8 0), .lit (.int .u8 0)], .agg [.lit (.int .u8 0), .lit (.int .u8 0)], .agg [.lit (.int .u8 0), .lit (.int .u8 0)], .agg [.lit (.int .u8 0), .lit (.int .u8 0)], .agg [.lit (.int .u8 0), .lit (.int .u8 0)], .agg [.lit (.int .u8 0), .lit (.int .u8 0)], .agg [.lit (.int .u8 0), .lit (.int .u8 0)]]
/-- One of Go's own tables, pinned by name: the form's constant. -/
def laid_unicode_utf8_first : DataW Unit := Go.Pinned.utf8First

/-- 'manometerlaw06.RexMatches': WHATEVER THE INPUT: true; the input reads as it did. -/
def rexMatchesSpec : ChangeSpec := { name := "rexMatches", fn := fun _ => fun
  | [d1, d2] => { results := [.lit (.bool true)], args := [d1, d2] }
  | _ => none }
def rexMatchesRow : OpenClaim := { program := "ytmfpikhmeacnbaadoor", sum := "1b9a106f4c8cd942f1b3ef708c8f4ee2185f0122ad997874356f4ce39695fa42", func := "manometer/manometerlaw06.RexMatches", spec := "rexMatches", unfollowed := true, recurses := true, named := ["unicode/utf8.first", "unicode/utf8.acceptRanges"], apart := false, laid := [("unicode/utf8.acceptRanges", laid_unicode_utf8_acceptRanges), ("unicode/utf8.first", laid_unicode_utf8_first)] }
def RexMatchesSaid : Prop := rexMatchesRow.holds Tryd.pinned (OpenSpec.ofChange rexMatchesSpec)

/-- ITS FALSE NEIGHBOUR: 'it returns false'. Refute it at one input. -/
def rexMatchesWrong : ChangeSpec := { name := "rexMatches", fn := fun _ => fun
  | [d1, d2] => { results := [.lit (.bool false)], args := [d1, d2] }
  | _ => none }
def RexMatchesWrongFalsely : Prop := rexMatchesRow.holds Tryd.pinned (OpenSpec.ofChange rexMatchesWrong)

/-- 'manometerlaw06.RexQuotes': WHATEVER THE INPUT: true; the input reads as it did. -/
def rexQuotesSpec : ChangeSpec := { name := "rexQuotes", fn := fun _ => fun
  | [d1, d2] => { results := [.lit (.bool true)], args := [d1, d2] }
  | _ => none }
def rexQuotesRow : OpenClaim := { program := "ytmfpikhmeacnbaadoor", sum := "1b9a106f4c8cd942f1b3ef708c8f4ee2185f0122ad997874356f4ce39695fa42", func := "manometer/manometerlaw06.RexQuotes", spec := "rexQuotes", unfollowed := true, recurses := true, named := ["unicode/utf8.first", "unicode/utf8.acceptRanges"], apart := false, laid := [("unicode/utf8.acceptRanges", laid_unicode_utf8_acceptRanges), ("unicode/utf8.first", laid_unicode_utf8_first)] }
def RexQuotesSaid : Prop := rexQuotesRow.holds Tryd.pinned (OpenSpec.ofChange rexQuotesSpec)

/-- ITS FALSE NEIGHBOUR: 'it returns false'. Refute it at one input. -/
def rexQuotesWrong : ChangeSpec := { name := "rexQuotes", fn := fun _ => fun
  | [d1, d2] => { results := [.lit (.bool false)], args := [d1, d2] }
  | _ => none }
def RexQuotesWrongFalsely : Prop := rexQuotesRow.holds Tryd.pinned (OpenSpec.ofChange rexQuotesWrong)

/-- 'manometerlaw06.RexEither': WHATEVER THE INPUT: true; the input reads as it did. -/
def rexEitherSpec : ChangeSpec := { name := "rexEither", fn := fun _ => fun
  | [d1, d2, d3, d4] => { results := [.lit (.bool true)], args := [d1, d2, d3, d4] }
  | _ => none }
def rexEitherRow : OpenClaim := { program := "ytmfpikhmeacnbaadoor", sum := "1b9a106f4c8cd942f1b3ef708c8f4ee2185f0122ad997874356f4ce39695fa42", func := "manometer/manometerlaw06.RexEither", spec := "rexEither", unfollowed := true, recurses := true, named := ["unicode/utf8.first", "unicode/utf8.acceptRanges"], apart := false, laid := [("unicode/utf8.acceptRanges", laid_unicode_utf8_acceptRanges), ("unicode/utf8.first", laid_unicode_utf8_first)] }
def RexEitherSaid : Prop := rexEitherRow.holds Tryd.pinned (OpenSpec.ofChange rexEitherSpec)

/-- ITS FALSE NEIGHBOUR: 'it returns false'. Refute it at one input. -/
def rexEitherWrong : ChangeSpec := { name := "rexEither", fn := fun _ => fun
  | [d1, d2, d3, d4] => { results := [.lit (.bool false)], args := [d1, d2, d3, d4] }
  | _ => none }
def RexEitherWrongFalsely : Prop := rexEitherRow.holds Tryd.pinned (OpenSpec.ofChange rexEitherWrong)

/-- 'manometerlaw06.RexStars': WHATEVER THE INPUT: true; the input reads as it did. -/
def rexStarsSpec : ChangeSpec := { name := "rexStars", fn := fun _ => fun
  | [d1, d2, d3] => { results := [.lit (.bool true)], args := [d1, d2, d3] }
  | _ => none }
def rexStarsRow : OpenClaim := { program := "ytmfpikhmeacnbaadoor", sum := "1b9a106f4c8cd942f1b3ef708c8f4ee2185f0122ad997874356f4ce39695fa42", func := "manometer/manometerlaw06.RexStars", spec := "rexStars", unfollowed := true, recurses := true, named := ["unicode/utf8.first", "unicode/utf8.acceptRanges"], apart := false, laid := [("unicode/utf8.acceptRanges", laid_unicode_utf8_acceptRanges), ("unicode/utf8.first", laid_unicode_utf8_first)] }
def RexStarsSaid : Prop := rexStarsRow.holds Tryd.pinned (OpenSpec.ofChange rexStarsSpec)

/-- ITS FALSE NEIGHBOUR: 'it returns false'. Refute it at one input. -/
def rexStarsWrong : ChangeSpec := { name := "rexStars", fn := fun _ => fun
  | [d1, d2, d3] => { results := [.lit (.bool false)], args := [d1, d2, d3] }
  | _ => none }
def RexStarsWrongFalsely : Prop := rexStarsRow.holds Tryd.pinned (OpenSpec.ofChange rexStarsWrong)

/-- 'manometerlaw06.RexValues': WHATEVER THE INPUT: true; the input reads as it did. -/
def rexValuesSpec : ChangeSpec := { name := "rexValues", fn := fun _ => fun
  | [d1, d2] => { results := [.lit (.bool true)], args := [d1, d2] }
  | _ => none }
def rexValuesRow : OpenClaim := { program := "ytmfpikhmeacnbaadoor", sum := "1b9a106f4c8cd942f1b3ef708c8f4ee2185f0122ad997874356f4ce39695fa42", func := "manometer/manometerlaw06.RexValues", spec := "rexValues", unfollowed := true, recurses := true, named := ["unicode/utf8.first", "unicode/utf8.acceptRanges"], apart := false, laid := [("unicode/utf8.acceptRanges", laid_unicode_utf8_acceptRanges), ("unicode/utf8.first", laid_unicode_utf8_first)] }
def RexValuesSaid : Prop := rexValuesRow.holds Tryd.pinned (OpenSpec.ofChange rexValuesSpec)

/-- ITS FALSE NEIGHBOUR: 'it returns false'. Refute it at one input. -/
def rexValuesWrong : ChangeSpec := { name := "rexValues", fn := fun _ => fun
  | [d1, d2] => { results := [.lit (.bool false)], args := [d1, d2] }
  | _ => none }
def RexValuesWrongFalsely : Prop := rexValuesRow.holds Tryd.pinned (OpenSpec.ofChange rexValuesWrong)

/-- 'manometerlaw06.RexNone': WHATEVER THE INPUT: true; the input reads as it did. -/
def rexNoneSpec : ChangeSpec := { name := "rexNone", fn := fun _ => fun
  | [d] => { results := [.lit (.bool true)], args := [d] }
  | _ => none }
def rexNoneRow : OpenClaim := { program := "ytmfpikhmeacnbaadoor", sum := "1b9a106f4c8cd942f1b3ef708c8f4ee2185f0122ad997874356f4ce39695fa42", func := "manometer/manometerlaw06.RexNone", spec := "rexNone", unfollowed := true, recurses := true, named := ["unicode/utf8.first", "unicode/utf8.acceptRanges"], apart := false, laid := [("unicode/utf8.acceptRanges", laid_unicode_utf8_acceptRanges), ("unicode/utf8.first", laid_unicode_utf8_first)] }
def RexNoneSaid : Prop := rexNoneRow.holds Tryd.pinned (OpenSpec.ofChange rexNoneSpec)

/-- ITS FALSE NEIGHBOUR: 'it returns false'. Refute it at one input. -/
def rexNoneWrong : ChangeSpec := { name := "rexNone", fn := fun _ => fun
  | [d] => { results := [.lit (.bool false)], args := [d] }
  | _ => none }
def RexNoneWrongFalsely : Prop := rexNoneRow.holds Tryd.pinned (OpenSpec.ofChange rexNoneWrong)

/- THE SECOND FORM. 'bulk': how many values and letters a reading holds, each counted each time it is reached (what is shared counts as often as it is met; a slice's spare places count too). A statement '..UptoSaid' is the law's where the arguments, and the package variables that the reading takes, are together of bulk at most 1048576: NARROWER than '..Said'. Prove '..Said' where nothing that the law and all that it calls make is longer than what came in: it says more and counts as full. Else prove '..UptoSaid'. A law counts once. -/
mutual
def uptoBulk {H : Type} : DataW H → Nat
  | .lit (.string bytes) => bytes.length + 1
  | .lit _ => 1
  | .nil => 1
  | .ptr d => uptoBulk d + 1
  | .slice elems spare => uptoBulkAll elems + uptoBulkAll spare + 1
  | .agg parts => uptoBulkAll parts + 1
  | .iface _ d => uptoBulk d + 1
  | .map entries => uptoBulkEntries entries + 1
  | .held _ => 1
def uptoBulkAll {H : Type} : List (DataW H) → Nat
  | [] => 0
  | d :: r => uptoBulk d + uptoBulkAll r
def uptoBulkEntries {H : Type} : List (Lit × DataW H) → Nat
  | [] => 0
  | x :: r => uptoBulkEntry x + uptoBulkEntries r
def uptoBulkEntry {H : Type} : Lit × DataW H → Nat
  | (.string bytes, d) => bytes.length + uptoBulk d + 1
  | (_, d) => uptoBulk d + 1
 end
def uptoSmall : (H : Type) → List (DataW H) → Bool := fun _ ds => decide (uptoBulkAll ds ≤ 1048576)
def OpenSpec.upto (s : _root_.Go.ChangeSpec) : _root_.Go.OpenSpec := { _root_.Go.OpenSpec.ofChange s with cond := some uptoSmall }

/-- 'manometerlaw06.RexMatches', WHERE WHAT IT READS IS OF BULK AT MOST 1048576: true; the input reads as it did. -/
def rexMatchesUptoRow : OpenClaim := { program := "ytmfpikhmeacnbaadoor", sum := "1b9a106f4c8cd942f1b3ef708c8f4ee2185f0122ad997874356f4ce39695fa42", func := "manometer/manometerlaw06.RexMatches", spec := "rexMatches", unfollowed := true, recurses := true, named := ["unicode/utf8.first", "unicode/utf8.acceptRanges"], apart := false, laid := [("unicode/utf8.acceptRanges", laid_unicode_utf8_acceptRanges), ("unicode/utf8.first", laid_unicode_utf8_first)], narrowed := true }
def RexMatchesUptoSaid : Prop := rexMatchesUptoRow.holds Tryd.pinned (OpenSpec.upto rexMatchesSpec)

/-- 'manometerlaw06.RexQuotes', WHERE WHAT IT READS IS OF BULK AT MOST 1048576: true; the input reads as it did. -/
def rexQuotesUptoRow : OpenClaim := { program := "ytmfpikhmeacnbaadoor", sum := "1b9a106f4c8cd942f1b3ef708c8f4ee2185f0122ad997874356f4ce39695fa42", func := "manometer/manometerlaw06.RexQuotes", spec := "rexQuotes", unfollowed := true, recurses := true, named := ["unicode/utf8.first", "unicode/utf8.acceptRanges"], apart := false, laid := [("unicode/utf8.acceptRanges", laid_unicode_utf8_acceptRanges), ("unicode/utf8.first", laid_unicode_utf8_first)], narrowed := true }
def RexQuotesUptoSaid : Prop := rexQuotesUptoRow.holds Tryd.pinned (OpenSpec.upto rexQuotesSpec)

/-- 'manometerlaw06.RexEither', WHERE WHAT IT READS IS OF BULK AT MOST 1048576: true; the input reads as it did. -/
def rexEitherUptoRow : OpenClaim := { program := "ytmfpikhmeacnbaadoor", sum := "1b9a106f4c8cd942f1b3ef708c8f4ee2185f0122ad997874356f4ce39695fa42", func := "manometer/manometerlaw06.RexEither", spec := "rexEither", unfollowed := true, recurses := true, named := ["unicode/utf8.first", "unicode/utf8.acceptRanges"], apart := false, laid := [("unicode/utf8.acceptRanges", laid_unicode_utf8_acceptRanges), ("unicode/utf8.first", laid_unicode_utf8_first)], narrowed := true }
def RexEitherUptoSaid : Prop := rexEitherUptoRow.holds Tryd.pinned (OpenSpec.upto rexEitherSpec)

/-- 'manometerlaw06.RexStars', WHERE WHAT IT READS IS OF BULK AT MOST 1048576: true; the input reads as it did. -/
def rexStarsUptoRow : OpenClaim := { program := "ytmfpikhmeacnbaadoor", sum := "1b9a106f4c8cd942f1b3ef708c8f4ee2185f0122ad997874356f4ce39695fa42", func := "manometer/manometerlaw06.RexStars", spec := "rexStars", unfollowed := true, recurses := true, named := ["unicode/utf8.first", "unicode/utf8.acceptRanges"], apart := false, laid := [("unicode/utf8.acceptRanges", laid_unicode_utf8_acceptRanges), ("unicode/utf8.first", laid_unicode_utf8_first)], narrowed := true }
def RexStarsUptoSaid : Prop := rexStarsUptoRow.holds Tryd.pinned (OpenSpec.upto rexStarsSpec)

/-- 'manometerlaw06.RexValues', WHERE WHAT IT READS IS OF BULK AT MOST 1048576: true; the input reads as it did. -/
def rexValuesUptoRow : OpenClaim := { program := "ytmfpikhmeacnbaadoor", sum := "1b9a106f4c8cd942f1b3ef708c8f4ee2185f0122ad997874356f4ce39695fa42", func := "manometer/manometerlaw06.RexValues", spec := "rexValues", unfollowed := true, recurses := true, named := ["unicode/utf8.first", "unicode/utf8.acceptRanges"], apart := false, laid := [("unicode/utf8.acceptRanges", laid_unicode_utf8_acceptRanges), ("unicode/utf8.first", laid_unicode_utf8_first)], narrowed := true }
def RexValuesUptoSaid : Prop := rexValuesUptoRow.holds Tryd.pinned (OpenSpec.upto rexValuesSpec)

/-- 'manometerlaw06.RexNone', WHERE WHAT IT READS IS OF BULK AT MOST 1048576: true; the input reads as it did. -/
def rexNoneUptoRow : OpenClaim := { program := "ytmfpikhmeacnbaadoor", sum := "1b9a106f4c8cd942f1b3ef708c8f4ee2185f0122ad997874356f4ce39695fa42", func := "manometer/manometerlaw06.RexNone", spec := "rexNone", unfollowed := true, recurses := true, named := ["unicode/utf8.first", "unicode/utf8.acceptRanges"], apart := false, laid := [("unicode/utf8.acceptRanges", laid_unicode_utf8_acceptRanges), ("unicode/utf8.first", laid_unicode_utf8_first)], narrowed := true }
def RexNoneUptoSaid : Prop := rexNoneUptoRow.holds Tryd.pinned (OpenSpec.upto rexNoneSpec)

end Rows
end Go.Proofs.YtmfpikhmeacnbaaDoor
