/- Part of a proof. -/
import Derived.Test.YtgicfogmdfdjmaaGreatDoorGTitleHolds28
namespace PA
open Go Go.RowKit
end PA
namespace Go.Proofs.YtgicfogmdfdjmaaGreatDoor
open Go.RowKit PA
theorem Lc (w:World):(Instr.build 57 #[]).run Tryz.prog w=.ok (.agg #[.int .i64 0,.int .i64 0]) w:=by kernel_rfl
attribute [local go_sem ↓] bQ bZ aT Lc
end Go.Proofs.YtgicfogmdfdjmaaGreatDoor
