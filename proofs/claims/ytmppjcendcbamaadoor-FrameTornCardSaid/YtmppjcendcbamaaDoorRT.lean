-- Readings of the types that the laws take (by row2.py, a program of this session).
import Derived.Test.YtmppjcendcbamaaDoorRW
import Derived.Test.YtmppjcendcbamaaDoorQ0
import Derived.KernelRfl
namespace Go.Proofs.YtmppjcendcbamaaDoor.Q
open Go.RowKit Go.Proofs.YtmppjcendcbamaaDoorW.PrintWords Go.Proofs.YtmppjcendcbamaaDoorW.PrintLast Go.Proofs.YtmppjcendcbamaaDoorW.PrintMore Go.Proofs.YtmppjcendcbamaaDoorW.RowWords
set_option linter.unusedVariables false



end Go.Proofs.YtmppjcendcbamaaDoor.Q
