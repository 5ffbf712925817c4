/- A part of a slice of bytes, in one equation. -/
import Derived.Test.YtcnonbhhlbplpaaS14
import Derived.Test.YtcnonbhhlbplpaaS13
namespace Go.Proofs.Ytcnonbhhlbplpaa
open Go.RowKit PA
theorem add_zero (x : Addr) : x.add 0 = x := by unfold Addr.add; split <;> simp_all
theorem slice_pre (a : Option Addr) (n c j : Nat) (hj : j ≤ c) (hc : (c : Int) ≤ 9223372036854775807) (w : World) : (Instr.slice 29 (.slice a n c) none (some (.int .i64 (j : Int))) none).run Try.prog w = .ok (.slice a j c) w := by
  have hjI : (j : Int) ≤ (c : Int) := by omega
  have hu := Try.underlying29
  cases a with
  | none => simp [Instr.slice, Instr.sliceBounds, Instr.sliceBound, go_sem]; exact fun h => absurd h (by omega)
  | some x => simp [Instr.slice, Instr.sliceBounds, Instr.sliceBound, go_sem, add_zero]; exact fun h => absurd h (by omega)
end Go.Proofs.Ytcnonbhhlbplpaa
