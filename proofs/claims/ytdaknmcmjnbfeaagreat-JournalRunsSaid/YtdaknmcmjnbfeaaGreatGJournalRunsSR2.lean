/- The reference's disk: New. -/
import Derived.Test.YtdaknmcmjnbfeaaGreatGJournalRuns19
import Derived.RegionTactic
namespace Go.Proofs.YtdaknmcmjnbfeaaGreat
open Go.RowKit PA
theorem infoBytes : (Tryz.prog.info? 39).map (fun i => (i.zero, i.size, i.bytes)) = some (some (.slice none 0 0), 1, 24) := by kernel_rfl
def zrow (v : Value) : Array Value := rowC fun _ => v
theorem made64 (v : Value) : madeCells #[v] 64 = zrow v := by
  apply Array.ext'
  rw [madeCells_one, zrow, rowC, List.map_const']
  simp
theorem make_BB (w : World) : (Instr.makeSlice 29 (.int .i64 64) (.int .i64 64)).run Tryz.prog w = .ok (.slice (some ⟨w.heap.size, 0, none⟩) 64 64) (w.alloc (.cells (zrow (.slice none 0 0)) 39)) := by
  obtain ⟨i, h1, h2, h3, h4⟩ := info_parts infoBytes
  have hr := run_make (P := Tryz.prog) w 29 39 i (.slice none 0 0) Tryz.underlying29 h1 h2 .i64 .i64 64 64 (by omega) (Int.le_refl _) (by rw [h4]; omega) (by omega)
  rw [h3] at hr
  rw [← made64]
  exact hr
theorem make_II (w : World) : (Instr.makeSlice 22 (.int .i64 64) (.int .i64 64)).run Tryz.prog w = .ok (.slice (some ⟨w.heap.size, 0, none⟩) 64 64) (w.alloc (.cells (zrow (.int .i64 0)) 3)) := by
  obtain ⟨i, h1, h2, h3, h4⟩ := info_parts infoInt
  have hr := run_make (P := Tryz.prog) w 22 3 i (.int .i64 0) Tryz.underlying22 h1 h2 .i64 .i64 64 64 (by omega) (Int.le_refl _) (by rw [h4]; omega) (by omega)
  rw [h3] at hr
  rw [← made64]
  exact hr
theorem rdnew_mk {W w : World} {A : Assn} {p B F room : Nat} (hr : room ≤ 16777216) (h : Sat W w (sep (blk p (.cells #[.int .i64 (room : Nat), .slice (some ⟨B, 0, none⟩) 64 64, .slice (some ⟨F, 0, none⟩) 64 64, .bool false, .int .i64 (-1)] 50 (0, 0))) (sep (blk B (.cells (zrow (.slice none 0 0)) 39 (0, 0))) (sep (blk F (.cells (zrow (.int .i64 0)) 3 (0, 0))) A)))) : Sat W w (sep (isRD p (newD room)) A) := by
  refine isRD_mk (B := B) (F := F) (V := fun _ => .slice none 0 0) (newD_ok hr) ?_
  have h1 := Sat.startPers W (fun I => FOKr I (fun _ => .slice none 0 0) noFiles) (fun I J hl h j hj => rBytes.mono hl (h j hj)) h (fun j hj => bytes_rel.2 ⟨none, 0, rfl, ⟨Nat.le_refl _, Nat.zero_le _, fun _ => rfl⟩, .inl rfl⟩)
  have h2 : Sat W w (sep (fokr (fun _ => .slice none 0 0) noFiles) _) := h1
  have e1 : rowC (firmV noFiles) = zrow (.int .i64 0) := rfl
  show Sat W w (sep (blk p (.cells (rdC B F (newD room)) 50 (0, 0))) (sep (blk B (.cells (rowC fun _ => .slice none 0 0) 39 (0, 0))) (sep (blk F (.cells (rowC (firmV noFiles)) 3 (0, 0))) (sep (fokr (fun _ => .slice none 0 0) noFiles) A))))
  rw [e1]
  have h3 : Sat W w (sep (fokr (fun _ => .slice none 0 0) noFiles) (sep (blk p (.cells (rdC B F (newD room)) 50 (0, 0))) (sep (blk B (.cells (rowC fun _ => .slice none 0 0) 39 (0, 0))) (sep (blk F (.cells (zrow (.int .i64 0)) 3 (0, 0))) A)))) := h2
  simpa only [sep_comm, sep_lcomm, sep_assoc] using h3
theorem rdnew_raw {W w : World} {A : Assn} (room : Nat) (h : Sat W w A) :
    Calls Tryz.prog 6 #[.int .i64 (room : Nat)] w fun e w' => ∃ p B F, e = .returned (.pointer (some ⟨p, 0, none⟩)) ∧ Sat W w' (sep (blk p (.cells #[.int .i64 (room : Nat), .slice (some ⟨B, 0, none⟩) 64 64, .slice (some ⟨F, 0, none⟩) 64 64, .bool false, .int .i64 (-1)] 50 (0, 0))) (sep (blk B (.cells (zrow (.slice none 0 0)) 39 (0, 0))) (sep (blk F (.cells (zrow (.int .i64 0)) 3 (0, 0))) A))) := by
  have hm1 := make_BB
  have hm2 := make_II
  have H1 := Lib.hid (((h.alloc (.cells (zrow (.slice none 0 0)) 39)).alloc (.cells (zrow (.int .i64 0)) 3)).alloc (.cells #[.int .i64 (room : Nat), .slice (some ⟨w.heap.size, 0, none⟩) 64 64, .slice (some ⟨w.heap.size + 1, 0, none⟩) 64 64, .bool false, .int .i64 (-1)] 50)).drew
  have H2 := Lib.hid (((h.alloc (.cells (zrow (.int .i64 0)) 3)).alloc (.cells (zrow (.slice none 0 0)) 39)).alloc (.cells #[.int .i64 (room : Nat), .slice (some ⟨w.heap.size + 1, 0, none⟩) 64 64, .slice (some ⟨w.heap.size, 0, none⟩) 64 64, .bool false, .int .i64 (-1)] 50)).drew
  simp only [World.size_alloc] at H1 H2
  clear h
  go_enter Tryz.func6, Tryz.ntmps6
  go_wp2
  go_region
  · go_wp2
    go_ret
    refine ⟨_, w.heap.size, w.heap.size + 1, rfl, ?_⟩
    have := H1.out
    simpa only [sep_comm, sep_lcomm, sep_assoc] using this
  · go_wp2
    go_ret
    refine ⟨_, w.heap.size + 1, w.heap.size, rfl, ?_⟩
    have := H2.out
    simpa only [sep_comm, sep_lcomm, sep_assoc] using this
theorem rdnew_spec {W w : World} {A : Assn} (room : Nat) (h : Sat W w A) (hr : room ≤ 16777216) :
    Calls Tryz.prog 6 #[.int .i64 (room : Nat)] w fun e w' => ∃ p, e = .returned (.pointer (some ⟨p, 0, none⟩)) ∧ Sat W w' (sep (isRD p (newD room)) A) := by
  refine (rdnew_raw room h).mono ?_
  rintro e w' ⟨p, B, F, rfl, h1⟩
  exact ⟨p, rfl, rdnew_mk hr h1⟩
/-! ### one file replaced -/
theorem FOKr.put {I : Mem} {V : Nat → Value} {fs : Nat → File} (h : FOKr I V fs) (n : Nat) {v : Value} {bs : List UInt8} {d : Nat} (hv : rBytes.rel I [v] bs) : FOKr I (vset V n v) (dset fs n (bs, d)) := by
  intro j hj
  unfold vset dset
  split
  · exact hv
  · exact h j hj
theorem firm_put (fs : Nat → File) (n : Nat) (bs : List UInt8) (d : Nat) : rowC (firmV (dset fs n (bs, d))) = rowC (vset (firmV fs) n (.int .i64 (d : Nat))) := by
  refine rowC_congr fun j _ => ?_
  unfold firmV vset dset
  split <;> rfl
theorem firm_same (fs : Nat → File) (n : Nat) (bs : List UInt8) : rowC (firmV (dset fs n (bs, (fs n).2))) = rowC (firmV fs) := by
  refine rowC_congr fun j _ => ?_
  unfold firmV dset
  split
  · rename_i e; subst e; rfl
  · rfl
theorem fokr_put {W w : World} {A : Assn} {I : Mem} {V : Nat → Value} {fs : Nat → File} (n : Nat) {v : Value} {bs : List UInt8} {d : Nat} (hv : rBytes.rel I [v] bs) (h : Sat W w (sep (fokr V fs) (sep (kn I) A))) : Sat W w (sep (fokr (vset V n v) (dset fs n (bs, d))) (sep (kn I) A)) := by
  refine h.wk ?_
  rintro J m ⟨x, y, h1, rfl, ⟨rfl, h2⟩, x', y', h3, rfl, ⟨rfl, hle⟩, h4⟩
  exact ⟨Mem.no, _, h1, rfl, ⟨rfl, h2.put n (rBytes.mono hle hv)⟩, Mem.no, y', h3, rfl, ⟨rfl, hle⟩, h4⟩
end Go.Proofs.YtdaknmcmjnbfeaaGreat
