/- Part of a proof. -/
import Derived.Test.YtgicfogmdfdjmaaGreatDoorGTitleOwners40
namespace PA
open Go Go.RowKit
end PA
namespace Go.Proofs.YtgicfogmdfdjmaaGreatDoor
open Go.RowKit PA
theorem Jm (w:World):(Instr.build 57 #[]).run Tryz.prog w=.ok (.agg #[.int .i64 0,.int .i64 0]) w:=by kernel_rfl
attribute [local go_sem ↓] bP cO aU Jm
end Go.Proofs.YtgicfogmdfdjmaaGreatDoor
