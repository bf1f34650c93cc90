/-
  NARROWER THAN 'FOR EVERY INPUT', by the rows' own cells (each row's printed sentence says how): FramePuts: laid · FrameGets: laid · FrameTells: laid · FrameSums: laid · FrameOn: laid · FrameAlls: laid · FrameBack: laid · FrameTorn: laid.
  DERIVED. THE GIVEN ROWS OF THIS SEAT. 8 by the template 'for every input the law returns true; each argument reads behind the call as it read before'; 0 by the template 'total and deterministic' (their statements: YtmppjcendcbamaaDoorTotals.lean).
  GIVEN WITH THE SEED: the statements are not yours to turn. If you find one false, say at which input.
  Laid BY PROGRAM, IN A SANDBOX (cutbox-rows.mjs): the forced cells as the released guide's own fill.sh prints them over the translation 14109ce794d7bb80… (all of the seat's roots in one cut). By AI agents, Wed Nov 11 2026. No macro, syntax, notation, axiom, sorry.
-/
import Derived.Test.YtmppjcendcbamaaDoorChecked
import GoSem.Claim
import GoSem.ClaimJoined
import GoSem.ClaimMapViews
import Derived.JoinedTies
import Derived.KernelRfl
namespace Go.Proofs.YtmppjcendcbamaaDoor
/- THE CELL 'sum', in the pinned program and in every row, IS THE sha256 OF THE DUMP (.gsa) THAT YtmppjcendcbamaaDoorProg.lean LOADS. Nothing in Lean hashes anything: it is a label: what it is worth is what the hold of that sum in a sandbox is worth. -/
noncomputable def Tryd.pinned : Pinned := { name := "ytmppjcendcbamaadoor", sum := "14109ce794d7bb80f45ac5f1609c76643af579b08b42914be7d20c71869a06e1", checked := Tryd.checked }
namespace Rows
def none {H : Type} : Left H := { results := [], args := [] }

/- WHAT THE LISTED PACKAGE-LEVEL VARIABLES READ AS WHEN THE CALL BEGINS. Each datum BY PROGRAM (the guide's laid-datum.mjs) off the statement by which the dump's own 'gosem.cut.vars' lays the variable. In a bare row this is a premise. The card (YtmppjcendcbamaaDoorCards.lean) ties it to the program's text. -/
def laid_manometer_frame_steps {H : Type} : DataW H := .agg [.lit (.int .u32 0), .lit (.int .u32 274646895), .lit (.int .u32 549293790), .lit (.int .u32 820201905), .lit (.int .u32 1098587580), .lit (.int .u32 1361435347), .lit (.int .u32 1640403810), .lit (.int .u32 1905808397), .lit (.int .u32 2197175160), .lit (.int .u32 2460548119), .lit (.int .u32 2722870694), .lit (.int .u32 2987750089), .lit (.int .u32 3280807620), .lit (.int .u32 3553878443), .lit (.int .u32 3811616794), .lit (.int .u32 4084100981)]

/-- 'manometerlaw02.FramePuts': WHATEVER THE INPUT: true; the input reads as it did. -/
def framePutsSpec : ChangeSpec := { name := "framePuts", fn := fun _ => fun
  | [d1, d2] => { results := [.lit (.bool true)], args := [d1, d2] }
  | _ => none }
def framePutsRow : OpenClaim := { program := "ytmppjcendcbamaadoor", sum := "14109ce794d7bb80f45ac5f1609c76643af579b08b42914be7d20c71869a06e1", func := "manometer/manometerlaw02.FramePuts", spec := "framePuts", named := ["manometer/frame.steps"], apart := false, laid := [("manometer/frame.steps", laid_manometer_frame_steps)] }
def FramePutsSaid : Prop := framePutsRow.holds Tryd.pinned (OpenSpec.ofChange framePutsSpec)

/-- ITS FALSE NEIGHBOUR: 'it returns false'. Refute it at one input. -/
def framePutsWrong : ChangeSpec := { name := "framePuts", fn := fun _ => fun
  | [d1, d2] => { results := [.lit (.bool false)], args := [d1, d2] }
  | _ => none }
def FramePutsWrongFalsely : Prop := framePutsRow.holds Tryd.pinned (OpenSpec.ofChange framePutsWrong)

/-- 'manometerlaw02.FrameGets': WHATEVER THE INPUT: true; the input reads as it did. -/
def frameGetsSpec : ChangeSpec := { name := "frameGets", fn := fun _ => fun
  | [d] => { results := [.lit (.bool true)], args := [d] }
  | _ => none }
def frameGetsRow : OpenClaim := { program := "ytmppjcendcbamaadoor", sum := "14109ce794d7bb80f45ac5f1609c76643af579b08b42914be7d20c71869a06e1", func := "manometer/manometerlaw02.FrameGets", spec := "frameGets", named := ["manometer/frame.steps"], apart := false, laid := [("manometer/frame.steps", laid_manometer_frame_steps)] }
def FrameGetsSaid : Prop := frameGetsRow.holds Tryd.pinned (OpenSpec.ofChange frameGetsSpec)

/-- ITS FALSE NEIGHBOUR: 'it returns false'. Refute it at one input. -/
def frameGetsWrong : ChangeSpec := { name := "frameGets", fn := fun _ => fun
  | [d] => { results := [.lit (.bool false)], args := [d] }
  | _ => none }
def FrameGetsWrongFalsely : Prop := frameGetsRow.holds Tryd.pinned (OpenSpec.ofChange frameGetsWrong)

/-- 'manometerlaw02.FrameTells': WHATEVER THE INPUT: true; the input reads as it did. -/
def frameTellsSpec : ChangeSpec := { name := "frameTells", fn := fun _ => fun
  | [d1, d2, d3] => { results := [.lit (.bool true)], args := [d1, d2, d3] }
  | _ => none }
def frameTellsRow : OpenClaim := { program := "ytmppjcendcbamaadoor", sum := "14109ce794d7bb80f45ac5f1609c76643af579b08b42914be7d20c71869a06e1", func := "manometer/manometerlaw02.FrameTells", spec := "frameTells", named := ["manometer/frame.steps"], apart := false, laid := [("manometer/frame.steps", laid_manometer_frame_steps)] }
def FrameTellsSaid : Prop := frameTellsRow.holds Tryd.pinned (OpenSpec.ofChange frameTellsSpec)

/-- ITS FALSE NEIGHBOUR: 'it returns false'. Refute it at one input. -/
def frameTellsWrong : ChangeSpec := { name := "frameTells", fn := fun _ => fun
  | [d1, d2, d3] => { results := [.lit (.bool false)], args := [d1, d2, d3] }
  | _ => none }
def FrameTellsWrongFalsely : Prop := frameTellsRow.holds Tryd.pinned (OpenSpec.ofChange frameTellsWrong)

/-- 'manometerlaw02.FrameSums': WHATEVER THE INPUT: true; the input reads as it did. -/
def frameSumsSpec : ChangeSpec := { name := "frameSums", fn := fun _ => fun
  | [d1, d2, d3] => { results := [.lit (.bool true)], args := [d1, d2, d3] }
  | _ => none }
def frameSumsRow : OpenClaim := { program := "ytmppjcendcbamaadoor", sum := "14109ce794d7bb80f45ac5f1609c76643af579b08b42914be7d20c71869a06e1", func := "manometer/manometerlaw02.FrameSums", spec := "frameSums", named := ["manometer/frame.steps"], apart := false, laid := [("manometer/frame.steps", laid_manometer_frame_steps)] }
def FrameSumsSaid : Prop := frameSumsRow.holds Tryd.pinned (OpenSpec.ofChange frameSumsSpec)

/-- ITS FALSE NEIGHBOUR: 'it returns false'. Refute it at one input. -/
def frameSumsWrong : ChangeSpec := { name := "frameSums", fn := fun _ => fun
  | [d1, d2, d3] => { results := [.lit (.bool false)], args := [d1, d2, d3] }
  | _ => none }
def FrameSumsWrongFalsely : Prop := frameSumsRow.holds Tryd.pinned (OpenSpec.ofChange frameSumsWrong)

/-- 'manometerlaw02.FrameOn': WHATEVER THE INPUT: true; the input reads as it did. -/
def frameOnSpec : ChangeSpec := { name := "frameOn", fn := fun _ => fun
  | [d1, d2, d3] => { results := [.lit (.bool true)], args := [d1, d2, d3] }
  | _ => none }
def frameOnRow : OpenClaim := { program := "ytmppjcendcbamaadoor", sum := "14109ce794d7bb80f45ac5f1609c76643af579b08b42914be7d20c71869a06e1", func := "manometer/manometerlaw02.FrameOn", spec := "frameOn", named := ["manometer/frame.steps"], apart := false, laid := [("manometer/frame.steps", laid_manometer_frame_steps)] }
def FrameOnSaid : Prop := frameOnRow.holds Tryd.pinned (OpenSpec.ofChange frameOnSpec)

/-- ITS FALSE NEIGHBOUR: 'it returns false'. Refute it at one input. -/
def frameOnWrong : ChangeSpec := { name := "frameOn", fn := fun _ => fun
  | [d1, d2, d3] => { results := [.lit (.bool false)], args := [d1, d2, d3] }
  | _ => none }
def FrameOnWrongFalsely : Prop := frameOnRow.holds Tryd.pinned (OpenSpec.ofChange frameOnWrong)

/-- 'manometerlaw02.FrameAlls': WHATEVER THE INPUT: true; the input reads as it did. -/
def frameAllsSpec : ChangeSpec := { name := "frameAlls", fn := fun _ => fun
  | [d] => { results := [.lit (.bool true)], args := [d] }
  | _ => none }
def frameAllsRow : OpenClaim := { program := "ytmppjcendcbamaadoor", sum := "14109ce794d7bb80f45ac5f1609c76643af579b08b42914be7d20c71869a06e1", func := "manometer/manometerlaw02.FrameAlls", spec := "frameAlls", named := ["manometer/frame.steps"], apart := false, laid := [("manometer/frame.steps", laid_manometer_frame_steps)] }
def FrameAllsSaid : Prop := frameAllsRow.holds Tryd.pinned (OpenSpec.ofChange frameAllsSpec)

/-- ITS FALSE NEIGHBOUR: 'it returns false'. Refute it at one input. -/
def frameAllsWrong : ChangeSpec := { name := "frameAlls", fn := fun _ => fun
  | [d] => { results := [.lit (.bool false)], args := [d] }
  | _ => none }
def FrameAllsWrongFalsely : Prop := frameAllsRow.holds Tryd.pinned (OpenSpec.ofChange frameAllsWrong)

/-- 'manometerlaw02.FrameBack': WHATEVER THE INPUT: true; the input reads as it did. -/
def frameBackSpec : ChangeSpec := { name := "frameBack", fn := fun _ => fun
  | [d1, d2] => { results := [.lit (.bool true)], args := [d1, d2] }
  | _ => none }
def frameBackRow : OpenClaim := { program := "ytmppjcendcbamaadoor", sum := "14109ce794d7bb80f45ac5f1609c76643af579b08b42914be7d20c71869a06e1", func := "manometer/manometerlaw02.FrameBack", spec := "frameBack", named := ["manometer/frame.steps"], apart := false, laid := [("manometer/frame.steps", laid_manometer_frame_steps)] }
def FrameBackSaid : Prop := frameBackRow.holds Tryd.pinned (OpenSpec.ofChange frameBackSpec)

/-- ITS FALSE NEIGHBOUR: 'it returns false'. Refute it at one input. -/
def frameBackWrong : ChangeSpec := { name := "frameBack", fn := fun _ => fun
  | [d1, d2] => { results := [.lit (.bool false)], args := [d1, d2] }
  | _ => none }
def FrameBackWrongFalsely : Prop := frameBackRow.holds Tryd.pinned (OpenSpec.ofChange frameBackWrong)

/-- 'manometerlaw02.FrameTorn': WHATEVER THE INPUT: true; the input reads as it did. -/
def frameTornSpec : ChangeSpec := { name := "frameTorn", fn := fun _ => fun
  | [d1, d2] => { results := [.lit (.bool true)], args := [d1, d2] }
  | _ => none }
def frameTornRow : OpenClaim := { program := "ytmppjcendcbamaadoor", sum := "14109ce794d7bb80f45ac5f1609c76643af579b08b42914be7d20c71869a06e1", func := "manometer/manometerlaw02.FrameTorn", spec := "frameTorn", named := ["manometer/frame.steps"], apart := false, laid := [("manometer/frame.steps", laid_manometer_frame_steps)] }
def FrameTornSaid : Prop := frameTornRow.holds Tryd.pinned (OpenSpec.ofChange frameTornSpec)

/-- ITS FALSE NEIGHBOUR: 'it returns false'. Refute it at one input. -/
def frameTornWrong : ChangeSpec := { name := "frameTorn", fn := fun _ => fun
  | [d1, d2] => { results := [.lit (.bool false)], args := [d1, d2] }
  | _ => none }
def FrameTornWrongFalsely : Prop := frameTornRow.holds Tryd.pinned (OpenSpec.ofChange frameTornWrong)

/- THE SECOND FORM. 'bulk': how many values and letters a reading holds, each counted each time it is reached (what is shared counts as often as it is met; a slice's spare places count too). A statement '..UptoSaid' is the law's where the arguments, and the package variables that the reading takes, are together of bulk at most 1048576: NARROWER than '..Said'. Prove '..Said' where nothing that the law and all that it calls make is longer than what came in: it says more and counts as full. Else prove '..UptoSaid'. A law counts once. -/
mutual
def uptoBulk {H : Type} : DataW H → Nat
  | .lit (.string bytes) => bytes.length + 1
  | .lit _ => 1
  | .nil => 1
  | .ptr d => uptoBulk d + 1
  | .slice elems spare => uptoBulkAll elems + uptoBulkAll spare + 1
  | .agg parts => uptoBulkAll parts + 1
  | .iface _ d => uptoBulk d + 1
  | .map entries => uptoBulkEntries entries + 1
  | .held _ => 1
def uptoBulkAll {H : Type} : List (DataW H) → Nat
  | [] => 0
  | d :: r => uptoBulk d + uptoBulkAll r
def uptoBulkEntries {H : Type} : List (Lit × DataW H) → Nat
  | [] => 0
  | x :: r => uptoBulkEntry x + uptoBulkEntries r
def uptoBulkEntry {H : Type} : Lit × DataW H → Nat
  | (.string bytes, d) => bytes.length + uptoBulk d + 1
  | (_, d) => uptoBulk d + 1
 end
def uptoSmall : (H : Type) → List (DataW H) → Bool := fun _ ds => decide (uptoBulkAll ds ≤ 1048576)
def OpenSpec.upto (s : _root_.Go.ChangeSpec) : _root_.Go.OpenSpec := { _root_.Go.OpenSpec.ofChange s with cond := some uptoSmall }

/-- 'manometerlaw02.FramePuts', WHERE WHAT IT READS IS OF BULK AT MOST 1048576: true; the input reads as it did. -/
def framePutsUptoRow : OpenClaim := { program := "ytmppjcendcbamaadoor", sum := "14109ce794d7bb80f45ac5f1609c76643af579b08b42914be7d20c71869a06e1", func := "manometer/manometerlaw02.FramePuts", spec := "framePuts", named := ["manometer/frame.steps"], apart := false, laid := [("manometer/frame.steps", laid_manometer_frame_steps)], narrowed := true }
def FramePutsUptoSaid : Prop := framePutsUptoRow.holds Tryd.pinned (OpenSpec.upto framePutsSpec)

/-- 'manometerlaw02.FrameGets', WHERE WHAT IT READS IS OF BULK AT MOST 1048576: true; the input reads as it did. -/
def frameGetsUptoRow : OpenClaim := { program := "ytmppjcendcbamaadoor", sum := "14109ce794d7bb80f45ac5f1609c76643af579b08b42914be7d20c71869a06e1", func := "manometer/manometerlaw02.FrameGets", spec := "frameGets", named := ["manometer/frame.steps"], apart := false, laid := [("manometer/frame.steps", laid_manometer_frame_steps)], narrowed := true }
def FrameGetsUptoSaid : Prop := frameGetsUptoRow.holds Tryd.pinned (OpenSpec.upto frameGetsSpec)

/-- 'manometerlaw02.FrameTells', WHERE WHAT IT READS IS OF BULK AT MOST 1048576: true; the input reads as it did. -/
def frameTellsUptoRow : OpenClaim := { program := "ytmppjcendcbamaadoor", sum := "14109ce794d7bb80f45ac5f1609c76643af579b08b42914be7d20c71869a06e1", func := "manometer/manometerlaw02.FrameTells", spec := "frameTells", named := ["manometer/frame.steps"], apart := false, laid := [("manometer/frame.steps", laid_manometer_frame_steps)], narrowed := true }
def FrameTellsUptoSaid : Prop := frameTellsUptoRow.holds Tryd.pinned (OpenSpec.upto frameTellsSpec)

/-- 'manometerlaw02.FrameSums', WHERE WHAT IT READS IS OF BULK AT MOST 1048576: true; the input reads as it did. -/
def frameSumsUptoRow : OpenClaim := { program := "ytmppjcendcbamaadoor", sum := "14109ce794d7bb80f45ac5f1609c76643af579b08b42914be7d20c71869a06e1", func := "manometer/manometerlaw02.FrameSums", spec := "frameSums", named := ["manometer/frame.steps"], apart := false, laid := [("manometer/frame.steps", laid_manometer_frame_steps)], narrowed := true }
def FrameSumsUptoSaid : Prop := frameSumsUptoRow.holds Tryd.pinned (OpenSpec.upto frameSumsSpec)

/-- 'manometerlaw02.FrameOn', WHERE WHAT IT READS IS OF BULK AT MOST 1048576: true; the input reads as it did. -/
def frameOnUptoRow : OpenClaim := { program := "ytmppjcendcbamaadoor", sum := "14109ce794d7bb80f45ac5f1609c76643af579b08b42914be7d20c71869a06e1", func := "manometer/manometerlaw02.FrameOn", spec := "frameOn", named := ["manometer/frame.steps"], apart := false, laid := [("manometer/frame.steps", laid_manometer_frame_steps)], narrowed := true }
def FrameOnUptoSaid : Prop := frameOnUptoRow.holds Tryd.pinned (OpenSpec.upto frameOnSpec)

/-- 'manometerlaw02.FrameAlls', WHERE WHAT IT READS IS OF BULK AT MOST 1048576: true; the input reads as it did. -/
def frameAllsUptoRow : OpenClaim := { program := "ytmppjcendcbamaadoor", sum := "14109ce794d7bb80f45ac5f1609c76643af579b08b42914be7d20c71869a06e1", func := "manometer/manometerlaw02.FrameAlls", spec := "frameAlls", named := ["manometer/frame.steps"], apart := false, laid := [("manometer/frame.steps", laid_manometer_frame_steps)], narrowed := true }
def FrameAllsUptoSaid : Prop := frameAllsUptoRow.holds Tryd.pinned (OpenSpec.upto frameAllsSpec)

/-- 'manometerlaw02.FrameBack', WHERE WHAT IT READS IS OF BULK AT MOST 1048576: true; the input reads as it did. -/
def frameBackUptoRow : OpenClaim := { program := "ytmppjcendcbamaadoor", sum := "14109ce794d7bb80f45ac5f1609c76643af579b08b42914be7d20c71869a06e1", func := "manometer/manometerlaw02.FrameBack", spec := "frameBack", named := ["manometer/frame.steps"], apart := false, laid := [("manometer/frame.steps", laid_manometer_frame_steps)], narrowed := true }
def FrameBackUptoSaid : Prop := frameBackUptoRow.holds Tryd.pinned (OpenSpec.upto frameBackSpec)

/-- 'manometerlaw02.FrameTorn', WHERE WHAT IT READS IS OF BULK AT MOST 1048576: true; the input reads as it did. -/
def frameTornUptoRow : OpenClaim := { program := "ytmppjcendcbamaadoor", sum := "14109ce794d7bb80f45ac5f1609c76643af579b08b42914be7d20c71869a06e1", func := "manometer/manometerlaw02.FrameTorn", spec := "frameTorn", named := ["manometer/frame.steps"], apart := false, laid := [("manometer/frame.steps", laid_manometer_frame_steps)], narrowed := true }
def FrameTornUptoSaid : Prop := frameTornUptoRow.holds Tryd.pinned (OpenSpec.upto frameTornSpec)

end Rows
end Go.Proofs.YtmppjcendcbamaaDoor
