/- Package title: share, move. -/
import Derived.Test.YtfapiopnjllnnaaGreatDoorGTitleApart6
import Derived.Test.YtfapiopnjllnnaaGreatDoorGTitleApart7
namespace Go.Proofs.YtfapiopnjllnnaaGreatDoor
open Go.RowKit PA
def shV (S : Shs) : Int → Option Value := fun k => (S k).map rtV
theorem shV_set (S : Shs) (p : Int) (r : Rt) : fset (shV S) p (some (rtV r)) = shV (setSh S p r) := by
  funext x
  unfold fset shV setSh
  split <;> rfl
/-- The title that p leads to. -/
def isT (p : Nat) (app : Int) (S : Shs) : Assn := ex fun bn : Nat × Nat => sep (blk p (.cells #[.int .i64 app, .map (some bn.1)] 90 (0, 0))) (bmap bn.1 (shV S) bn.2)
section
variable {W w : World} {A : Assn} {p : Nat} {app : Int} {S : Shs}
theorem isT_open (h : Sat W w (sep (isT p app S) A)) : ∃ b n, Sat W w (sep (blk p (.cells #[.int .i64 app, .map (some b)] 90 (0, 0))) (sep (bmap b (shV S) n) A)) := by
  rw [isT, ex_sep, Sat.ex] at h
  obtain ⟨⟨b, n⟩, h⟩ := h
  rw [sep_assoc] at h
  exact ⟨b, n, h⟩
theorem isT_mk {b n : Nat} (h : Sat W w (sep (blk p (.cells #[.int .i64 app, .map (some b)] 90 (0, 0))) (sep (bmap b (shV S) n) A))) : Sat W w (sep (isT p app S) A) := by
  rw [isT, ex_sep, Sat.ex]
  exact ⟨(b, n), by rw [sep_assoc]; exact h⟩
theorem zeroRatio (w : World) : (zeroValue 44).run Tryz.prog w = .ok (.agg #[.int .i64 0, .int .i64 0]) w := by kernel_rfl
set_option maxHeartbeats 1000000 in
theorem share_spec (x : Int) (h : Sat W w (sep (isT p app S) A)) :
    Calls Tryz.prog 47 #[.pointer (some ⟨p, 0, none⟩), .int .i64 x] w fun e w' => e = .returned (.agg #[.int .i64 (shareP S x).n, .int .i64 (shareP S x).d]) ∧ Sat W w' (sep (isT p app S) A) := by
  obtain ⟨b, n, h0⟩ := isT_open h
  obtain ⟨r, hr⟩ : ∃ r, r = shareP S x := ⟨_, rfl⟩
  rw [← hr]
  have h1 := h0.alloc (.cells #[.int .i64 0, .int .i64 0] 44)
  obtain ⟨B, hB⟩ : ∃ B, B = w.heap.size := ⟨_, rfl⟩
  obtain ⟨w1, hw1⟩ : ∃ w1, w1 = w.alloc (.cells #[.int .i64 0, .int .i64 0] 44) := ⟨_, rfl⟩
  have hsz : w1.heap.size = B + 1 := by rw [hw1, World.size_alloc, hB]
  rw [← hB, ← hw1] at h1
  have c1 : w1.cell? ⟨p, 1, none⟩ = some (.map (some b)) := h1.p1.cell 1
  have hlk := run_lookup_bmap (P := Tryz.prog) (T := 88) Tryz.underlying88 Tryz.underlying3 zeroRatio h1.p2 x true
  have HB := Lib.hid hB
  have HW1 := Lib.hid hw1
  have HR := Lib.hid hr
  clear hB hw1 h h0 hr
  cases e : S x with
  | some rr =>
    obtain ⟨rn, rd⟩ := rr
    have hval : shV S x = some (.agg #[.int .i64 rn, .int .i64 rd]) := by unfold shV; rw [e]; rfl
    rw [hval] at hlk
    have hlk2 : (Instr.lookup 88 (.map (some b)) (.int .i64 x) true).run Tryz.prog w1 = .ok (.tuple #[.agg #[.int .i64 rn, .int .i64 rd], .bool true]) w1 := hlk
    have hrv : r = ⟨rn, rd⟩ := by rw [HR.out]; unfold shareP; rw [e]; rfl
    have HRV := Lib.hid hrv
    have h2 := h1.alloc (.cells #[.int .i64 rn, .int .i64 rd] 44)
    rw [hsz] at h2
    obtain ⟨w2, hw2⟩ : ∃ w2, w2 = w1.alloc (.cells #[.int .i64 rn, .int .i64 rd] 44) := ⟨_, rfl⟩
    rw [← hw2] at h2
    obtain ⟨j0, j1, -, -⟩ := rt2 h2
    obtain ⟨k0, k1, k2, k3⟩ := rt2 h2.p1
    have h4 := rt2_set h2.p1 (.int .i64 rn) (.int .i64 rd)
    obtain ⟨w4, hw4⟩ : ∃ w4, w4 = (w2.setCell ⟨B, 0, none⟩ (.int .i64 rn)).setCell ⟨B, 1, none⟩ (.int .i64 rd) := ⟨_, rfl⟩
    rw [← hw4] at h4
    obtain ⟨d0, d1, -, -⟩ := rt2 h4
    have HW2 := Lib.hid hw2
    have HW4 := Lib.hid hw4
    have HSZ := Lib.hid hsz
    have h5 := isT_mk (S := S) (h4.forget.forget)
    clear hw2 hw4 hlk hval hrv e h1 h2 h4 hsz
    go_enter Tryz.func47, Tryz.ntmps47
    go_upto_region 1 with (fail)
    rw [← HB.out, ← HW1.out]
    go_upto_region 2 with (fail)
    rw [HSZ.out, ← HW2.out]
    go_wp2
    rw [← HW4.out]
    exact bodyPost_ret (v := .agg #[.int .i64 rn, .int .i64 rd]) (by simp [results, Tryz.results47, go_sem, d0, d1]) rfl ⟨by rw [HRV.out], h5⟩
  | none =>
    have hval : shV S x = none := by unfold shV; rw [e]; rfl
    rw [hval] at hlk
    have hlk2 : (Instr.lookup 88 (.map (some b)) (.int .i64 x) true).run Tryz.prog w1 = .ok (.tuple #[.agg #[.int .i64 0, .int .i64 0], .bool false]) w1 := hlk
    have hrv : r = ⟨0, 1⟩ := by rw [HR.out]; unfold shareP; rw [e]; rfl
    have HRV := Lib.hid hrv
    have h2 := h1.alloc (.cells #[.int .i64 0, .int .i64 0] 44)
    rw [hsz] at h2
    obtain ⟨w2, hw2⟩ : ∃ w2, w2 = w1.alloc (.cells #[.int .i64 0, .int .i64 0] 44) := ⟨_, rfl⟩
    rw [← hw2] at h2
    obtain ⟨k0, k1, k2, k3⟩ := rt2 h2.p1
    have h4 := rt2_set h2.p1 (.int .i64 0) (.int .i64 1)
    obtain ⟨w4, hw4⟩ : ∃ w4, w4 = (w2.setCell ⟨B, 0, none⟩ (.int .i64 0)).setCell ⟨B, 1, none⟩ (.int .i64 1) := ⟨_, rfl⟩
    rw [← hw4] at h4
    obtain ⟨d0, d1, -, -⟩ := rt2 h4
    have HW2 := Lib.hid hw2
    have HW4 := Lib.hid hw4
    have HSZ := Lib.hid hsz
    have h5 := isT_mk (S := S) (h4.forget.forget)
    clear hw2 hw4 hlk hval hrv e h1 h2 h4 hsz
    go_enter Tryz.func47, Tryz.ntmps47
    go_upto_region 1 with (fail)
    rw [← HB.out, ← HW1.out]
    go_upto_region 2 with (fail)
    rw [HSZ.out, ← HW2.out]
    go_wp2
    rw [← HW4.out]
    exact bodyPost_ret (v := .agg #[.int .i64 0, .int .i64 1]) (by simp [results, Tryz.results47, go_sem, d0, d1]) rfl ⟨by rw [HRV.out], h5⟩
end
end Go.Proofs.YtfapiopnjllnnaaGreatDoor
