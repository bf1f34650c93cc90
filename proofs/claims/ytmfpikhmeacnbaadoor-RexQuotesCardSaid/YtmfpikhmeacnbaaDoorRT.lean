-- Readings of the types that the laws take (by row2.py, a program of this session).
import Derived.Test.YtmfpikhmeacnbaaDoorRS
import Derived.Test.YtmfpikhmeacnbaaDoorQ0
import Derived.KernelRfl
namespace Go.Proofs.YtmfpikhmeacnbaaDoor.Q
open Go.RowKit Go.Proofs.YtmfpikhmeacnbaaDoorW.PrintWords Go.Proofs.YtmfpikhmeacnbaaDoorW.PrintLast Go.Proofs.YtmfpikhmeacnbaaDoorW.PrintMore Go.Proofs.YtmfpikhmeacnbaaDoorW.RowWords
set_option linter.unusedVariables false



end Go.Proofs.YtmfpikhmeacnbaaDoor.Q
