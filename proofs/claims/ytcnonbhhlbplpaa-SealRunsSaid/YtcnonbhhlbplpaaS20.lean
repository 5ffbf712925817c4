/- Package seal: Copy (maps.Clone). -/
import Derived.Shelf.SlMaps.Clone
import Derived.Test.YtcnonbhhlbplpaaS4
namespace Go.Proofs.Ytcnonbhhlbplpaa
open Go.RowKit PA
set_option maxRecDepth 100000 in
set_option maxHeartbeats 2000000 in
theorem mapClone_spec (b : Nat) (es : Array MapEntry) (clock : Nat) (w : World) (hb : w.heap[b]? = some (.map es clock)) :
    Calls Try.prog 44 #[.map (some b)] w fun e w' => e = .returned (.map (some w.heap.size)) ∧ w' = w.alloc (.map es clock) := by
  have hq := fun w => run_eql_map_nil_sl (P := Try.prog) w 61 _ _ (some b) Try.underlying61
  go_enter Try.func44, Try.ntmps44
  go_wp2
  rw [run_callFunc_extern Try.func57 (by kernel_rfl) (by kernel_rfl) (by kernel_rfl) (e := Extern.MapsClone.clone) (by kernel_rfl), run_maps_clone_sl w 61 hb]
  simp only [Result.andThen]
  rw [Oper.upon_value]
  go_wp2
  rw [run_typeAssert_map_sl _ 61 20 _ _ _ Try.underlying61]
  simp only [Result.andThen]
  rw [Oper.upon_value]
  go_wp2
  go_ret
  exact ⟨rfl, rfl⟩
theorem Born.same {W w : World} {A : Assn} {b : Nat} {f : Int → Option Value} {n : Nat} {es : Array MapEntry} {clock : Nat} (h : Sat W w (sep (bmap b f n) A)) (hb : w.heap[b]? = some (.map es clock)) : Sat W (w.alloc (.map es clock)) (sep (bmap w.heap.size f n) (sep (bmap b f n) A)) := by
  obtain ⟨es', clock', h1, h2, h3, h4⟩ := h.bmap_open
  have e := h4.blk_heap
  rw [hb] at e
  simp only [Option.some.injEq, Obj.map.injEq] at e
  obtain ⟨rfl, rfl⟩ := e
  exact (h.alloc (.map es clock)).bmap_mk h1 h2 h3
set_option maxHeartbeats 1000000 in
theorem scopy_spec {W w : World} {A : Assn} (p : Nat) (M : Int → Option Ent) (n : Nat) (h : Sat W w (sep (isBox p M n) A)) :
    Calls Try.prog 26 #[.pointer (some ⟨p, 0, none⟩)] w fun e w' => ∃ q, e = .returned (.pointer (some ⟨q, 0, none⟩)) ∧ Sat W w' (sep (isBox q M n) (sep (isBox p M n) A)) := by
  obtain ⟨hn, b, f, h0⟩ := isBox_open h
  have c0 : w.cell? ⟨p, 0, none⟩ = some (.map (some b)) := h0.cell 0
  obtain ⟨es, clock, -, -, -, h4⟩ := h0.p1.bmap_open
  have hb := h4.blk_heap
  have hcl := mapClone_spec b es clock w hb
  have h5 := Born.same h0.p1 hb
  have h6 := h5.alloc (.cells #[.map (some w.heap.size)] 63)
  have hdup : Sat W ((w.alloc (.map es clock)).alloc (.cells #[.map (some w.heap.size)] 63)) (sep (sokA f M) (sep (sokA f M) (sep (blk (w.alloc (.map es clock)).heap.size (.cells #[.map (some w.heap.size)] 63 (0, 0))) (sep (bmap w.heap.size f n) (sep (bmap b f n) (sep (blk p (.cells #[.map (some b)] 63 (0, 0))) A)))))) := (show Sat W _ (sep (sokA f M) (sep (blk (w.alloc (.map es clock)).heap.size (.cells #[.map (some w.heap.size)] 63 (0, 0))) (sep (bmap w.heap.size f n) (sep (bmap b f n) (sep (blk p (.cells #[.map (some b)] 63 (0, 0))) A))))) by simpa only [sep_comm, sep_lcomm, sep_assoc] using h6).dup
  have h7 := isBox_mk (p := (w.alloc (.map es clock)).heap.size) (M := M) (b := w.heap.size) (f := f) hn (show Sat W _ (sep (blk (w.alloc (.map es clock)).heap.size (.cells #[.map (some w.heap.size)] 63 (0, 0))) (sep (bmap w.heap.size f n) (sep (sokA f M) (sep (blk p (.cells #[.map (some b)] 63 (0, 0))) (sep (bmap b f n) (sep (sokA f M) A)))))) by simpa only [sep_comm, sep_lcomm, sep_assoc] using hdup)
  have h8 := isBox_mk (p := p) (M := M) (b := b) (f := f) hn (show Sat W _ (sep (blk p (.cells #[.map (some b)] 63 (0, 0))) (sep (bmap b f n) (sep (sokA f M) (sep (isBox (w.alloc (.map es clock)).heap.size M n) A)))) by simpa only [sep_comm, sep_lcomm, sep_assoc] using h7)
  have h9 := h8.p1
  rw [World.size_alloc] at h9
  have H8 := Lib.hid h9
  have HCL := Lib.hid hcl
  clear h h0 h4 h5 h6 hdup h7 h8 h9 hcl hb hn
  go_enter Try.func26, Try.ntmps26
  go_wp2_with fail
  refine HCL.out.mono ?_
  rintro e w2 ⟨rfl, rfl⟩
  go_wp2_with fail
  go_ret
  exact ⟨_, rfl, H8.out⟩
end Go.Proofs.Ytcnonbhhlbplpaa
