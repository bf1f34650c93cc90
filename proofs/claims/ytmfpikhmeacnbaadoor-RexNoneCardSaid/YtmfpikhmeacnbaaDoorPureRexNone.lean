/- RexNone: the pure statement, without program and memory. -/
import Derived.Test.YtmfpikhmeacnbaaDoorQ90
import Derived.Test.YtmfpikhmeacnbaaDoorRT
namespace Go.Proofs.YtmfpikhmeacnbaaDoor.Pure
open Go.RowKit Go.Proofs.YtmfpikhmeacnbaaDoor.Q Go.Proofs.YtmfpikhmeacnbaaDoorW.PrintWords Go.Proofs.YtmfpikhmeacnbaaDoorW.PrintLast Go.Proofs.YtmfpikhmeacnbaaDoorW.PrintMore Go.Proofs.YtmfpikhmeacnbaaDoorW.RowWords

theorem RexNone : ∀ (a0 : ByteArray), a0.size ≤ reach → manometerlaw06_RexNone.f a0 = some true := by
  intros; rfl

end Go.Proofs.YtmfpikhmeacnbaaDoor.Pure
