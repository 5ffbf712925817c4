/- The reference's disk: Sync. -/
import Derived.Test.YtdaknmcmjnbfeaaGreatGJournalRunsSR3
namespace Go.Proofs.YtdaknmcmjnbfeaaGreat
open Go.RowKit PA
/-- The first i files hardened. -/
def hardTo (fs : Nat → File) (i : Nat) : Nat → File := fun j => if j < i then ((fs j).1, (fs j).1.length) else fs j
theorem hardTo_zero (fs : Nat → File) : hardTo fs 0 = fs := by funext j; simp [hardTo]
theorem hardTo_1 (fs : Nat → File) (i j : Nat) : (hardTo fs i j).1 = (fs j).1 := by unfold hardTo; split <;> rfl
theorem hardTo_succ (fs : Nat → File) (i : Nat) : rowC (vset (firmV (hardTo fs i)) i (.int .i64 ((fs i).1.length : Nat))) = rowC (firmV (hardTo fs (i + 1))) := by
  refine rowC_congr fun j _ => ?_
  unfold vset firmV hardTo
  by_cases h1 : j = i
  · subst h1; simp
  · by_cases h2 : j < i
    · simp [h1, h2, show j < i + 1 by omega]
    · simp [h1, h2, show ¬ j < i + 1 by omega]
theorem hardTo_all {s : DSt} (h : s.ok) : hardTo s.fs 64 = fun j => ((s.fs j).1, (s.fs j).1.length) := by
  funext j
  unfold hardTo
  split
  · rfl
  · rw [h.hi j (by omega)]; rfl
theorem fokr_hard {W w : World} {A : Assn} {V : Nat → Value} {fs : Nat → File} (i : Nat) : Sat W w (sep (fokr V (hardTo fs i)) A) ↔ Sat W w (sep (fokr V fs) A) := by
  have e : fokr V (hardTo fs i) = fokr V fs := by
    unfold fokr FOKr
    simp only [hardTo_1]
  rw [e]
/-- What a loop that hardens keeps. -/
def HardI (W : World) (A : Assn) (p B F : Nat) (V : Nat → Value) (s : DSt) (i : Nat) (wr : World) : Prop :=
  Sat W wr (sep (blk p (.cells (rdC B F s) 50 (0, 0))) (sep (blk B (.cells (rowC V) 39 (0, 0))) (sep (blk F (.cells (rowC (firmV (hardTo s.fs i))) 3 (0, 0))) (sep (fokr V s.fs) A))))
theorem HardI.done {W w : World} {A : Assn} {p B F : Nat} {V : Nat → Value} {s : DSt} (hok : s.ok) (h : HardI W A p B F V s 64 w) : Sat W w (sep (isRD p s.hard) A) := by
  refine isRD_mk (B := B) (F := F) (V := V) hok.hard ?_
  have e1 : s.hard.fs = hardTo s.fs 64 := by rw [hardTo_all hok]; rfl
  rw [e1]
  show Sat W w (sep (blk p (.cells (rdC B F s) 50 (0, 0))) (sep (blk B (.cells (rowC V) 39 (0, 0))) (sep (blk F (.cells (rowC (firmV (hardTo s.fs 64))) 3 (0, 0))) (sep (fokr V (hardTo s.fs 64)) A))))
  have h1 : Sat W w (sep (fokr V s.fs) (sep (blk p (.cells (rdC B F s) 50 (0, 0))) (sep (blk B (.cells (rowC V) 39 (0, 0))) (sep (blk F (.cells (rowC (firmV (hardTo s.fs 64))) 3 (0, 0))) A)))) := by
    have : Sat W w _ := h
    simpa only [HardI, sep_comm, sep_lcomm, sep_assoc] using this
  have h2 := (fokr_hard 64).2 h1
  simpa only [sep_comm, sep_lcomm, sep_assoc] using h2
theorem HardI.start {W w : World} {A : Assn} {p B F : Nat} {V : Nat → Value} {s : DSt} (h : Sat W w (sep (blk p (.cells (rdC B F s) 50 (0, 0))) (sep (blk B (.cells (rowC V) 39 (0, 0))) (sep (blk F (.cells (rowC (firmV s.fs)) 3 (0, 0))) (sep (fokr V s.fs) A))))) : HardI W A p B F V s 0 w := by
  unfold HardI
  rw [hardTo_zero]
  exact h
theorem HardI.step {W w : World} {A : Assn} {p B F : Nat} {V : Nat → Value} {s : DSt} {i : Nat} (hi : i < 64) (h : HardI W A p B F V s i w) :
    ∃ a l c, w.cell? ⟨p, 1, none⟩ = some (.slice (some ⟨B, 0, none⟩) 64 64) ∧ w.cell? ⟨p, 2, none⟩ = some (.slice (some ⟨F, 0, none⟩) 64 64) ∧ w.cell? ⟨B, i, none⟩ = some (.slice a l c) ∧
      (∃ v, w.cell? ⟨F, i, none⟩ = some v) ∧ w.frozen? ⟨F, i, none⟩ = false ∧ HardI W A p B F V s (i + 1) (w.setCell ⟨F, i, none⟩ (.int .i64 (l : Nat))) := by
  have h' : Sat W w _ := h
  obtain ⟨a, c, hv, -⟩ := fokr_cell h'.p3 hi
  have h2 := h'.p2
  refine ⟨a, (s.fs i).1.length, c, h'.cell 1, h'.cell 2, by rw [h'.p1.cell i, rowC_get _ hi, hv], ⟨_, by rw [h2.cell i, rowC_get _ hi]⟩, h2.unfrozen i, ?_⟩
  have h3 := h2.setCell i (.int .i64 ((s.fs i).1.length : Nat))
  rw [rowC_set, hardTo_succ] at h3
  unfold HardI
  simpa only [sep_comm, sep_lcomm, sep_assoc] using h3
set_option maxRecDepth 100000 in
set_option maxHeartbeats 2000000 in
theorem rdsync_spec {W w : World} {A : Assn} (p : Nat) (s : DSt) (h : Sat W w (sep (isRD p s) A)) :
    Calls Tryz.prog 28 #[.pointer (some ⟨p, 0, none⟩)] w fun e w' => e = .returned (.int .i64 (syncD s).1) ∧ Sat W w' (sep (isRD p (syncD s).2) A) := by
  obtain ⟨B, F, V, hok, h0⟩ := isRD_open h
  have c3 : w.cell? ⟨p, 3, none⟩ = some (.bool s.off) := h0.cell 3
  have H := Lib.hid h
  cases hoff : s.off with
  | true =>
    have e : syncD s = (19, s) := by rw [syncD, hoff]; rfl
    rw [e]
    rw [hoff] at c3
    clear h h0 hoff e hok
    go_enter Tryz.func28, Tryz.ntmps28
    go_wp2_with fail
    go_ret
    exact ⟨rfl, H.out⟩
  | false =>
    have hst := rdstep_spec p s h hoff
    have e : syncD s = if s.step.1 then (0, s.step.2.hard) else (19, s.step.2) := by rw [syncD, hoff]; rfl
    rw [e]
    rw [hoff] at c3
    obtain ⟨t, ht⟩ : ∃ t, t = s.step.1 := ⟨_, rfl⟩
    obtain ⟨s', hs'⟩ : ∃ s', s' = s.step.2 := ⟨_, rfl⟩
    rw [← ht, ← hs'] at hst ⊢
    have hok' : s'.ok := by rw [hs']; exact hok.step
    have HOK := Lib.hid hok'
    have HST := Lib.hid hst
    clear h h0 hoff e hok ht hs' hok' hst H
    go_enter Tryz.func28, Tryz.ntmps28
    go_wp2_with fail
    refine HST.out.mono ?_
    rintro e w2 ⟨rfl, h2⟩
    have H2 := Lib.hid h2
    clear HST h2 c3
    cases t with
    | false =>
      go_wp2_with fail
      go_ret
      exact ⟨rfl, H2.out⟩
    | true =>
      obtain ⟨B, F, V, -, h3⟩ := isRD_open H2.out
      have H3 := Lib.hid (HardI.start h3)
      clear h3 H2
      go_wp2_with fail
      go_loopw [4] (fun iv' wr => ∃ i : Nat, i ≤ 64 ∧ iv' = .int .i64 (i : Nat) ∧ Hid (HardI W A p B F V s' i wr)) (fun iv' _ => 64 - (intOf iv').toNat)
      case atStart => exact ⟨0, by omega, rfl, H3⟩
      case round =>
        clear H3
        obtain ⟨i, hi, rfl, HS⟩ := hrel
        by_cases hi64 : i < 64
        · obtain ⟨a, l, c, c1, c2, c3, ⟨v, c4⟩, fz, h4⟩ := HS.out.step hi64
          have c1d : wr.drew.cell? ⟨p, 1, none⟩ = some (.slice (some ⟨B, 0, none⟩) 64 64) := c1
          have c2d : wr.drew.cell? ⟨p, 2, none⟩ = some (.slice (some ⟨F, 0, none⟩) 64 64) := c2
          have c3d : wr.drew.cell? ⟨B, i, none⟩ = some (.slice a l c) := c3
          have c4d : wr.drew.cell? ⟨F, i, none⟩ = some v := c4
          have fzd : wr.drew.frozen? ⟨F, i, none⟩ = false := fz
          have HD : Hid (HardI W A p B F V s' (i + 1) (wr.setCell ⟨F, i, none⟩ (.int .i64 (l : Nat))).drew) := Lib.hid (Sat.drew h4)
          have hS0 : True := trivial
          clear h4 c1 c2 c3 c4 fz HS
          go_wp2_with fail
          refine wp_region_canon rfl (fun _ => True) [(0, .p), (1, .p), (2, .p), (3, .t), (4, .p), (5, .p), (6, .p), (7, .p), (8, .t), (9, .p), (10, .p), (11, .t), (12, .p), (13, .p), (14, .e false)] (by kernel_rfl) ?_
          (repeat (first | (refine C_p (v := ?_) rfl rfl (fun w' => ?_) ?_; rotate_left; (go_simp; with_reducible rfl); simp only [Act.put, List.setIfInBounds_toArray, List.set_cons_zero, List.set_cons_succ]) | (refine C_s (v := ?_) rfl rfl hS0 (fun w' hS => ?_) ?_; rotate_left; ((try dsimp only at hS); go_simp; with_reducible rfl); simp only [Act.put, List.setIfInBounds_toArray, List.set_cons_zero, List.set_cons_succ]) | (refine C_t (v := ?_) rfl rfl ?_ ?_; rotate_left; (go_simp; with_reducible rfl); simp only [Act.put, List.setIfInBounds_toArray, List.set_cons_zero, List.set_cons_succ]) | (refine C_po rfl rfl ?_; simp only [Act.put, List.setIfInBounds_toArray, List.set_cons_zero, List.set_cons_succ]) | (refine C_so rfl rfl hS0 ?_; simp only [Act.put, List.setIfInBounds_toArray, List.set_cons_zero, List.set_cons_succ]) | (refine C_to rfl rfl ?_; simp only [Act.put, List.setIfInBounds_toArray, List.set_cons_zero, List.set_cons_succ])))
          (refine C_e rfl rfl (fun K hK => ?_); go_simp)
          clear c1d c2d c3d c4d fzd
          (refine hK _ _ (fun h => by cases h) ?_; clear hK K; (try simp only [Act.put, List.setIfInBounds_toArray, List.set_cons_zero, List.set_cons_succ]))
          refine C_nil ?_
          go_wp2_with fail
          go_roundw
          case rel => exact ⟨i + 1, by omega, rfl, HD⟩
          case measure => simp only [intOf]; omega
        · obtain rfl : i = 64 := by omega
          go_wp2_with fail
          go_ret
          exact ⟨rfl, HS.out.done HOK.out⟩
end Go.Proofs.YtdaknmcmjnbfeaaGreat
