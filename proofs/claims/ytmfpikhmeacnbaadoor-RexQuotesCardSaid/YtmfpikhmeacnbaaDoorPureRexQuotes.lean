/- RexQuotes: the pure statement, without program and memory. -/
import Derived.Test.YtmfpikhmeacnbaaDoorQ92
import Derived.Test.YtmfpikhmeacnbaaDoorRT
namespace Go.Proofs.YtmfpikhmeacnbaaDoor.Pure
open Go.RowKit Go.Proofs.YtmfpikhmeacnbaaDoor.Q Go.Proofs.YtmfpikhmeacnbaaDoorW.PrintWords Go.Proofs.YtmfpikhmeacnbaaDoorW.PrintLast Go.Proofs.YtmfpikhmeacnbaaDoorW.PrintMore Go.Proofs.YtmfpikhmeacnbaaDoorW.RowWords

theorem RexQuotes : ∀ (a0 : ByteArray) (a1 : ByteArray), a0.size ≤ reach → a1.size ≤ reach → manometerlaw06_RexQuotes.f a0 a1 = some true := by
  intros; rfl

end Go.Proofs.YtmfpikhmeacnbaaDoor.Pure
