-- Readings of the types that the laws take (by row2.py, a program of this session).
import Derived.Test.YtibilnohnildcaaRS
import Derived.Test.YtibilnohnildcaaQ0
import Derived.KernelRfl
namespace Go.Proofs.Ytibilnohnildcaa.Q
open Go.RowKit Go.Proofs.YtibilnohnildcaaW.PrintWords Go.Proofs.YtibilnohnildcaaW.PrintLast Go.Proofs.YtibilnohnildcaaW.PrintMore Go.Proofs.YtibilnohnildcaaW.RowWords
set_option linter.unusedVariables false



end Go.Proofs.Ytibilnohnildcaa.Q
