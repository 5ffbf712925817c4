/- The reference's hash of bytes. -/
import Derived.Test.YtbniekblkbdidaaH4
namespace Go.Proofs.Ytbniekblkbdidaa
open Go.RowKit PA
end Go.Proofs.Ytbniekblkbdidaa
