-- Words of this session's own: from what a row reads (DataW.trod) to what the printed contracts ask (Kd). Ytlnipfmgdkiboaa: the seat's name.
import Derived.Test.YtlnipfmgdkiboaaWMore
import Derived.Deep.Slices
import Derived.Deep.Strs
import Derived.ChangeArms
import Derived.WideShapes
import Derived.DataReads
namespace Go.Proofs.YtlnipfmgdkiboaaW.RowWords
open Go.RowKit Go.Deep Go.Proofs.YtlnipfmgdkiboaaW.PrintWords Go.Proofs.YtlnipfmgdkiboaaW.PrintLast Go.Proofs.YtlnipfmgdkiboaaW.PrintMore
set_option linter.unusedVariables false
set_option linter.unusedSimpArgs false
end Go.Proofs.YtlnipfmgdkiboaaW.RowWords
