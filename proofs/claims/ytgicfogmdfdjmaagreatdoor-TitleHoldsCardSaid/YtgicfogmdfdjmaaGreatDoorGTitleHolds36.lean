/- Part of a proof. -/
import Derived.Test.YtgicfogmdfdjmaaGreatDoorGTitleHolds30
import Derived.Test.YtgicfogmdfdjmaaGreatDoorGTitleHolds35
namespace PA
open Go Go.RowKit
end PA
namespace Go.Proofs.YtgicfogmdfdjmaaGreatDoor
open Go.RowKit PA
attribute [local go_sem ↓] bQ bZ aT sJ
end Go.Proofs.YtgicfogmdfdjmaaGreatDoor
namespace Go.Proofs.YtgicfogmdfdjmaaGreatDoor
open Go.RowKit PA
attribute [local go_sem ↓] bQ bZ aT
end Go.Proofs.YtgicfogmdfdjmaaGreatDoor
namespace PA
open Go Go.RowKit
end PA
namespace Go.Proofs.YtgicfogmdfdjmaaGreatDoor
open Go.RowKit PA
theorem VZ (w:World):(Instr.build 67 #[(0,.int .i64 10),(3,.int .i64 7),(1,.int .i64 40000)]).run Tryz.prog w=.ok (.agg #[.int .i64 10,.int .i64 40000,.int .i64 0,.int .i64 7,.int .i64 0,.int .i64 0,.int .i64 0,.int .i64 0,.int .i64 0,.int .i64 0,.int .i64 0,.slice none 0 0,.slice none 0 0,.slice none 0 0,.slice none 0 0,.int .i64 0,.int .i64 0,.slice none 0 0,.slice none 0 0]) w:=by kernel_rfl
attribute [local go_sem ↓] bQ bZ aT VZ
end Go.Proofs.YtgicfogmdfdjmaaGreatDoor
