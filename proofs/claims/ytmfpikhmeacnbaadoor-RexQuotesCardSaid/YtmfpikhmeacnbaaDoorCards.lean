/-
  DERIVED. GIVEN WITH THE SEED: THE CARDS: each row of YtmfpikhmeacnbaaDoorRows.lean that lists a variable, with what it lists TIED to the program's text (the seventh form; the later family's looks); each row that meets fmt, with fmt's text TOLD by the authors' own Lean function (tested against real Go, not proved from fmt's source: count such statements apart). THE CARD IS WHAT COUNTS. Prove the row's statement (the work); the ties are given (YtmfpikhmeacnbaaDoorTie.lean); close each card by the builder's one call (the guide's Derived/Test/ToyasCard.lean, 'card_holds'). Laid BY PROGRAM, IN A SANDBOX (cutbox-door.mjs). By AI agents, Wed Nov 11 2026. No macro, syntax, notation, axiom, sorry.
-/
import Derived.Test.YtmfpikhmeacnbaaDoorRows
import GoSem.ClaimSeven
namespace Go.Proofs.YtmfpikhmeacnbaaDoor
namespace Rows

/-- THE TIED CARD OF 'manometerlaw06.RexMatches'. -/
def rexMatchesCard : Claim7 := { stood := { row := rexMatchesRow, standIns := [], harness := (true, "4a77062161af1ada8c47bfccf273fc767d1f23bcbd22e8d41bc7cce9fc27fe44"), looks := true }, kinds := [], alts := [], laidByText := true, laidKinds := [.data, .pinned], laidTests := true, laidLooks := .later }
def RexMatchesCardSaid : Prop := Claim7.holds Tryd.pinned (.plain (OpenSpec.ofChange rexMatchesSpec)) rexMatchesCard

/-- THE TIED CARD OF 'manometerlaw06.RexQuotes'. -/
def rexQuotesCard : Claim7 := { stood := { row := rexQuotesRow, standIns := [], harness := (true, "4a77062161af1ada8c47bfccf273fc767d1f23bcbd22e8d41bc7cce9fc27fe44"), looks := true }, kinds := [], alts := [], laidByText := true, laidKinds := [.data, .pinned], laidTests := true, laidLooks := .later }
def RexQuotesCardSaid : Prop := Claim7.holds Tryd.pinned (.plain (OpenSpec.ofChange rexQuotesSpec)) rexQuotesCard

/-- THE TIED CARD OF 'manometerlaw06.RexEither'. -/
def rexEitherCard : Claim7 := { stood := { row := rexEitherRow, standIns := [], harness := (true, "4a77062161af1ada8c47bfccf273fc767d1f23bcbd22e8d41bc7cce9fc27fe44"), looks := true }, kinds := [], alts := [], laidByText := true, laidKinds := [.data, .pinned], laidTests := true, laidLooks := .later }
def RexEitherCardSaid : Prop := Claim7.holds Tryd.pinned (.plain (OpenSpec.ofChange rexEitherSpec)) rexEitherCard

/-- THE TIED CARD OF 'manometerlaw06.RexStars'. -/
def rexStarsCard : Claim7 := { stood := { row := rexStarsRow, standIns := [], harness := (true, "4a77062161af1ada8c47bfccf273fc767d1f23bcbd22e8d41bc7cce9fc27fe44"), looks := true }, kinds := [], alts := [], laidByText := true, laidKinds := [.data, .pinned], laidTests := true, laidLooks := .later }
def RexStarsCardSaid : Prop := Claim7.holds Tryd.pinned (.plain (OpenSpec.ofChange rexStarsSpec)) rexStarsCard

/-- THE TIED CARD OF 'manometerlaw06.RexValues'. -/
def rexValuesCard : Claim7 := { stood := { row := rexValuesRow, standIns := [], harness := (true, "4a77062161af1ada8c47bfccf273fc767d1f23bcbd22e8d41bc7cce9fc27fe44"), looks := true }, kinds := [], alts := [], laidByText := true, laidKinds := [.data, .pinned], laidTests := true, laidLooks := .later }
def RexValuesCardSaid : Prop := Claim7.holds Tryd.pinned (.plain (OpenSpec.ofChange rexValuesSpec)) rexValuesCard

/-- THE TIED CARD OF 'manometerlaw06.RexNone'. -/
def rexNoneCard : Claim7 := { stood := { row := rexNoneRow, standIns := [], harness := (true, "4a77062161af1ada8c47bfccf273fc767d1f23bcbd22e8d41bc7cce9fc27fe44"), looks := true }, kinds := [], alts := [], laidByText := true, laidKinds := [.data, .pinned], laidTests := true, laidLooks := .later }
def RexNoneCardSaid : Prop := Claim7.holds Tryd.pinned (.plain (OpenSpec.ofChange rexNoneSpec)) rexNoneCard

/-- THE SECOND FORM's CARD OF 'manometerlaw06.RexMatches'. -/
def rexMatchesUptoCard : Claim7 := { stood := { row := rexMatchesUptoRow, standIns := [], harness := (true, "4a77062161af1ada8c47bfccf273fc767d1f23bcbd22e8d41bc7cce9fc27fe44"), looks := true }, kinds := [], alts := [], laidByText := true, laidKinds := [.data, .pinned], laidTests := true, laidLooks := .later }
def RexMatchesUptoCardSaid : Prop := Claim7.holds Tryd.pinned (.plain (OpenSpec.upto rexMatchesSpec)) rexMatchesUptoCard

/-- THE SECOND FORM's CARD OF 'manometerlaw06.RexQuotes'. -/
def rexQuotesUptoCard : Claim7 := { stood := { row := rexQuotesUptoRow, standIns := [], harness := (true, "4a77062161af1ada8c47bfccf273fc767d1f23bcbd22e8d41bc7cce9fc27fe44"), looks := true }, kinds := [], alts := [], laidByText := true, laidKinds := [.data, .pinned], laidTests := true, laidLooks := .later }
def RexQuotesUptoCardSaid : Prop := Claim7.holds Tryd.pinned (.plain (OpenSpec.upto rexQuotesSpec)) rexQuotesUptoCard

/-- THE SECOND FORM's CARD OF 'manometerlaw06.RexEither'. -/
def rexEitherUptoCard : Claim7 := { stood := { row := rexEitherUptoRow, standIns := [], harness := (true, "4a77062161af1ada8c47bfccf273fc767d1f23bcbd22e8d41bc7cce9fc27fe44"), looks := true }, kinds := [], alts := [], laidByText := true, laidKinds := [.data, .pinned], laidTests := true, laidLooks := .later }
def RexEitherUptoCardSaid : Prop := Claim7.holds Tryd.pinned (.plain (OpenSpec.upto rexEitherSpec)) rexEitherUptoCard

/-- THE SECOND FORM's CARD OF 'manometerlaw06.RexStars'. -/
def rexStarsUptoCard : Claim7 := { stood := { row := rexStarsUptoRow, standIns := [], harness := (true, "4a77062161af1ada8c47bfccf273fc767d1f23bcbd22e8d41bc7cce9fc27fe44"), looks := true }, kinds := [], alts := [], laidByText := true, laidKinds := [.data, .pinned], laidTests := true, laidLooks := .later }
def RexStarsUptoCardSaid : Prop := Claim7.holds Tryd.pinned (.plain (OpenSpec.upto rexStarsSpec)) rexStarsUptoCard

/-- THE SECOND FORM's CARD OF 'manometerlaw06.RexValues'. -/
def rexValuesUptoCard : Claim7 := { stood := { row := rexValuesUptoRow, standIns := [], harness := (true, "4a77062161af1ada8c47bfccf273fc767d1f23bcbd22e8d41bc7cce9fc27fe44"), looks := true }, kinds := [], alts := [], laidByText := true, laidKinds := [.data, .pinned], laidTests := true, laidLooks := .later }
def RexValuesUptoCardSaid : Prop := Claim7.holds Tryd.pinned (.plain (OpenSpec.upto rexValuesSpec)) rexValuesUptoCard

/-- THE SECOND FORM's CARD OF 'manometerlaw06.RexNone'. -/
def rexNoneUptoCard : Claim7 := { stood := { row := rexNoneUptoRow, standIns := [], harness := (true, "4a77062161af1ada8c47bfccf273fc767d1f23bcbd22e8d41bc7cce9fc27fe44"), looks := true }, kinds := [], alts := [], laidByText := true, laidKinds := [.data, .pinned], laidTests := true, laidLooks := .later }
def RexNoneUptoCardSaid : Prop := Claim7.holds Tryd.pinned (.plain (OpenSpec.upto rexNoneSpec)) rexNoneUptoCard
end Rows
end Go.Proofs.YtmfpikhmeacnbaaDoor
