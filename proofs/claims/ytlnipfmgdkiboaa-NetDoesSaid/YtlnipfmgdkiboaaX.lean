-- Words of this session's own, beside the print's: make with a room of its own, a cut with a capacity. Ytlnipfmgdkiboaa: the seat's name.
import Derived.Test.YtlnipfmgdkiboaaWMore
import Derived.Laws.MakeOwn
namespace Go.Proofs.YtlnipfmgdkiboaaW.PrintMore
open Go.RowKit Go.Proofs.YtlnipfmgdkiboaaW.PrintWords Go.Proofs.YtlnipfmgdkiboaaW.PrintLast
set_option linter.unusedVariables false
set_option linter.unusedSimpArgs false
section
variable {P : Program} {ops : Array Oper} {rest : List Oper} {o : Oper} {a : Act} {Q : Exit → Act → World → Prop} {α : Type}
end
theorem xu32_w (n : Int) : IntKind.u32.wrap n = n % 4294967296 := IntKind.wrap_u32 n
theorem xu8_w (n : Int) : IntKind.u8.wrap n = n % 256 := IntKind.wrap_u8 n
end Go.Proofs.YtlnipfmgdkiboaaW.PrintMore
