/-
  DERIVED. GIVEN WITH THE SEED: THE CARDS: each row of YtmppjcendcbamaaDoorRows.lean that lists a variable, with what it lists TIED to the program's text (the seventh form; the later family's looks); each row that meets fmt, with fmt's text TOLD by the authors' own Lean function (tested against real Go, not proved from fmt's source: count such statements apart). THE CARD IS WHAT COUNTS. Prove the row's statement (the work); the ties are given (YtmppjcendcbamaaDoorTie.lean); close each card by the builder's one call (the guide's Derived/Test/ToyasCard.lean, 'card_holds'). Laid BY PROGRAM, IN A SANDBOX (cutbox-door.mjs). By AI agents, Wed Nov 11 2026. No macro, syntax, notation, axiom, sorry.
-/
import Derived.Test.YtmppjcendcbamaaDoorRows
import GoSem.ClaimSeven
namespace Go.Proofs.YtmppjcendcbamaaDoor
namespace Rows

/-- THE TIED CARD OF 'manometerlaw02.FramePuts'. -/
def framePutsCard : Claim7 := { stood := { row := framePutsRow, standIns := [], harness := (true, "3e1f2bdde163b337f2cbdac48414f32aad34552aa4f693c6e4a14dab7677a980"), looks := false }, kinds := [], alts := [], laidByText := true, laidKinds := [.data], laidTests := true, laidLooks := .later }
def FramePutsCardSaid : Prop := Claim7.holds Tryd.pinned (.plain (OpenSpec.ofChange framePutsSpec)) framePutsCard

/-- THE TIED CARD OF 'manometerlaw02.FrameGets'. -/
def frameGetsCard : Claim7 := { stood := { row := frameGetsRow, standIns := [], harness := (true, "3e1f2bdde163b337f2cbdac48414f32aad34552aa4f693c6e4a14dab7677a980"), looks := false }, kinds := [], alts := [], laidByText := true, laidKinds := [.data], laidTests := true, laidLooks := .later }
def FrameGetsCardSaid : Prop := Claim7.holds Tryd.pinned (.plain (OpenSpec.ofChange frameGetsSpec)) frameGetsCard

/-- THE TIED CARD OF 'manometerlaw02.FrameTells'. -/
def frameTellsCard : Claim7 := { stood := { row := frameTellsRow, standIns := [], harness := (true, "3e1f2bdde163b337f2cbdac48414f32aad34552aa4f693c6e4a14dab7677a980"), looks := false }, kinds := [], alts := [], laidByText := true, laidKinds := [.data], laidTests := true, laidLooks := .later }
def FrameTellsCardSaid : Prop := Claim7.holds Tryd.pinned (.plain (OpenSpec.ofChange frameTellsSpec)) frameTellsCard

/-- THE TIED CARD OF 'manometerlaw02.FrameSums'. -/
def frameSumsCard : Claim7 := { stood := { row := frameSumsRow, standIns := [], harness := (true, "3e1f2bdde163b337f2cbdac48414f32aad34552aa4f693c6e4a14dab7677a980"), looks := false }, kinds := [], alts := [], laidByText := true, laidKinds := [.data], laidTests := true, laidLooks := .later }
def FrameSumsCardSaid : Prop := Claim7.holds Tryd.pinned (.plain (OpenSpec.ofChange frameSumsSpec)) frameSumsCard

/-- THE TIED CARD OF 'manometerlaw02.FrameOn'. -/
def frameOnCard : Claim7 := { stood := { row := frameOnRow, standIns := [], harness := (true, "3e1f2bdde163b337f2cbdac48414f32aad34552aa4f693c6e4a14dab7677a980"), looks := false }, kinds := [], alts := [], laidByText := true, laidKinds := [.data], laidTests := true, laidLooks := .later }
def FrameOnCardSaid : Prop := Claim7.holds Tryd.pinned (.plain (OpenSpec.ofChange frameOnSpec)) frameOnCard

/-- THE TIED CARD OF 'manometerlaw02.FrameAlls'. -/
def frameAllsCard : Claim7 := { stood := { row := frameAllsRow, standIns := [], harness := (true, "3e1f2bdde163b337f2cbdac48414f32aad34552aa4f693c6e4a14dab7677a980"), looks := false }, kinds := [], alts := [], laidByText := true, laidKinds := [.data], laidTests := true, laidLooks := .later }
def FrameAllsCardSaid : Prop := Claim7.holds Tryd.pinned (.plain (OpenSpec.ofChange frameAllsSpec)) frameAllsCard

/-- THE TIED CARD OF 'manometerlaw02.FrameBack'. -/
def frameBackCard : Claim7 := { stood := { row := frameBackRow, standIns := [], harness := (true, "3e1f2bdde163b337f2cbdac48414f32aad34552aa4f693c6e4a14dab7677a980"), looks := false }, kinds := [], alts := [], laidByText := true, laidKinds := [.data], laidTests := true, laidLooks := .later }
def FrameBackCardSaid : Prop := Claim7.holds Tryd.pinned (.plain (OpenSpec.ofChange frameBackSpec)) frameBackCard

/-- THE TIED CARD OF 'manometerlaw02.FrameTorn'. -/
def frameTornCard : Claim7 := { stood := { row := frameTornRow, standIns := [], harness := (true, "3e1f2bdde163b337f2cbdac48414f32aad34552aa4f693c6e4a14dab7677a980"), looks := false }, kinds := [], alts := [], laidByText := true, laidKinds := [.data], laidTests := true, laidLooks := .later }
def FrameTornCardSaid : Prop := Claim7.holds Tryd.pinned (.plain (OpenSpec.ofChange frameTornSpec)) frameTornCard

/-- THE SECOND FORM's CARD OF 'manometerlaw02.FramePuts'. -/
def framePutsUptoCard : Claim7 := { stood := { row := framePutsUptoRow, standIns := [], harness := (true, "3e1f2bdde163b337f2cbdac48414f32aad34552aa4f693c6e4a14dab7677a980"), looks := false }, kinds := [], alts := [], laidByText := true, laidKinds := [.data], laidTests := true, laidLooks := .later }
def FramePutsUptoCardSaid : Prop := Claim7.holds Tryd.pinned (.plain (OpenSpec.upto framePutsSpec)) framePutsUptoCard

/-- THE SECOND FORM's CARD OF 'manometerlaw02.FrameGets'. -/
def frameGetsUptoCard : Claim7 := { stood := { row := frameGetsUptoRow, standIns := [], harness := (true, "3e1f2bdde163b337f2cbdac48414f32aad34552aa4f693c6e4a14dab7677a980"), looks := false }, kinds := [], alts := [], laidByText := true, laidKinds := [.data], laidTests := true, laidLooks := .later }
def FrameGetsUptoCardSaid : Prop := Claim7.holds Tryd.pinned (.plain (OpenSpec.upto frameGetsSpec)) frameGetsUptoCard

/-- THE SECOND FORM's CARD OF 'manometerlaw02.FrameTells'. -/
def frameTellsUptoCard : Claim7 := { stood := { row := frameTellsUptoRow, standIns := [], harness := (true, "3e1f2bdde163b337f2cbdac48414f32aad34552aa4f693c6e4a14dab7677a980"), looks := false }, kinds := [], alts := [], laidByText := true, laidKinds := [.data], laidTests := true, laidLooks := .later }
def FrameTellsUptoCardSaid : Prop := Claim7.holds Tryd.pinned (.plain (OpenSpec.upto frameTellsSpec)) frameTellsUptoCard

/-- THE SECOND FORM's CARD OF 'manometerlaw02.FrameSums'. -/
def frameSumsUptoCard : Claim7 := { stood := { row := frameSumsUptoRow, standIns := [], harness := (true, "3e1f2bdde163b337f2cbdac48414f32aad34552aa4f693c6e4a14dab7677a980"), looks := false }, kinds := [], alts := [], laidByText := true, laidKinds := [.data], laidTests := true, laidLooks := .later }
def FrameSumsUptoCardSaid : Prop := Claim7.holds Tryd.pinned (.plain (OpenSpec.upto frameSumsSpec)) frameSumsUptoCard

/-- THE SECOND FORM's CARD OF 'manometerlaw02.FrameOn'. -/
def frameOnUptoCard : Claim7 := { stood := { row := frameOnUptoRow, standIns := [], harness := (true, "3e1f2bdde163b337f2cbdac48414f32aad34552aa4f693c6e4a14dab7677a980"), looks := false }, kinds := [], alts := [], laidByText := true, laidKinds := [.data], laidTests := true, laidLooks := .later }
def FrameOnUptoCardSaid : Prop := Claim7.holds Tryd.pinned (.plain (OpenSpec.upto frameOnSpec)) frameOnUptoCard

/-- THE SECOND FORM's CARD OF 'manometerlaw02.FrameAlls'. -/
def frameAllsUptoCard : Claim7 := { stood := { row := frameAllsUptoRow, standIns := [], harness := (true, "3e1f2bdde163b337f2cbdac48414f32aad34552aa4f693c6e4a14dab7677a980"), looks := false }, kinds := [], alts := [], laidByText := true, laidKinds := [.data], laidTests := true, laidLooks := .later }
def FrameAllsUptoCardSaid : Prop := Claim7.holds Tryd.pinned (.plain (OpenSpec.upto frameAllsSpec)) frameAllsUptoCard

/-- THE SECOND FORM's CARD OF 'manometerlaw02.FrameBack'. -/
def frameBackUptoCard : Claim7 := { stood := { row := frameBackUptoRow, standIns := [], harness := (true, "3e1f2bdde163b337f2cbdac48414f32aad34552aa4f693c6e4a14dab7677a980"), looks := false }, kinds := [], alts := [], laidByText := true, laidKinds := [.data], laidTests := true, laidLooks := .later }
def FrameBackUptoCardSaid : Prop := Claim7.holds Tryd.pinned (.plain (OpenSpec.upto frameBackSpec)) frameBackUptoCard

/-- THE SECOND FORM's CARD OF 'manometerlaw02.FrameTorn'. -/
def frameTornUptoCard : Claim7 := { stood := { row := frameTornUptoRow, standIns := [], harness := (true, "3e1f2bdde163b337f2cbdac48414f32aad34552aa4f693c6e4a14dab7677a980"), looks := false }, kinds := [], alts := [], laidByText := true, laidKinds := [.data], laidTests := true, laidLooks := .later }
def FrameTornUptoCardSaid : Prop := Claim7.holds Tryd.pinned (.plain (OpenSpec.upto frameTornSpec)) frameTornUptoCard
end Rows
end Go.Proofs.YtmppjcendcbamaaDoor
