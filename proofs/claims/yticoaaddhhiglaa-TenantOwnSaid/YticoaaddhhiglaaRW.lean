-- Words of this session's own: from what a row reads (DataW.trod) to what the printed contracts ask (Kd). Yticoaaddhhiglaa: the seat's name.
import Derived.Test.YticoaaddhhiglaaWMore
import Derived.Deep.Slices
import Derived.Deep.Strs
import Derived.ChangeArms
import Derived.WideShapes
import Derived.DataReads
namespace Go.Proofs.YticoaaddhhiglaaW.RowWords
open Go.RowKit Go.Deep Go.Proofs.YticoaaddhhiglaaW.PrintWords Go.Proofs.YticoaaddhhiglaaW.PrintLast Go.Proofs.YticoaaddhhiglaaW.PrintMore
set_option linter.unusedVariables false
set_option linter.unusedSimpArgs false
end Go.Proofs.YticoaaddhhiglaaW.RowWords
