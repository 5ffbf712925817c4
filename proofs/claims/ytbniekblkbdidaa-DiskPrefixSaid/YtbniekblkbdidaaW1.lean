/- Package wire: the writer. -/
import Derived.Test.YtbniekblkbdidaaH5
namespace Go.Proofs.Ytbniekblkbdidaa
open Go.RowKit PA
theorem infoU8w : (Try.prog.info? 5).map (fun i => (i.zero, i.size, i.bytes)) = some (some (.int .u8 0), 1, 1) := by kernel_rfl
end Go.Proofs.Ytbniekblkbdidaa
