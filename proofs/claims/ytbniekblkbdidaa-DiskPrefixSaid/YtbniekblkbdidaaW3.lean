/- The reference's Uint, Int, Raw. -/
import Derived.Test.YtbniekblkbdidaaW2
namespace Go.Proofs.Ytbniekblkbdidaa
open Go.RowKit PA
end Go.Proofs.Ytbniekblkbdidaa
