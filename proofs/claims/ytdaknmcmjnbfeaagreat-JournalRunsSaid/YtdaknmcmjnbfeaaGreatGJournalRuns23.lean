/- The reference's disk: Truncate, Rot. -/
import Derived.Test.YtdaknmcmjnbfeaaGreatGJournalRunsSR4
namespace Go.Proofs.YtdaknmcmjnbfeaaGreat
open Go.RowKit PA
set_option maxRecDepth 100000 in
set_option maxHeartbeats 4000000 in
theorem rdtrunc_spec {W w : World} {A : Assn} (p : Nat) (s : DSt) (n size : Int) (h : Sat W w (sep (isRD p s) A)) :
    Calls Tryz.prog 27 #[.pointer (some ⟨p, 0, none⟩), .int .i64 n, .int .i64 size] w fun e w' => e = .returned (.int .i64 (truncD s n size).1) ∧ Sat W w' (sep (isRD p (truncD s n size).2) A) := by
  have H := Lib.hid h
  rcases Int.lt_or_le n 0 with g1 | g1
  · have HE : Hid (truncD s n size = (1, s)) := Lib.hid (by rw [truncD, if_pos (by omega)])
    clear h
    go_enter Tryz.func27, Tryz.ntmps27
    go_wp2_with fail
    go_ret
    rw [HE.out]
    exact ⟨rfl, H.out⟩
  · have g1' : ¬ n < 0 := by omega
    rcases Int.lt_or_le 63 n with g2 | g2
    · have HE : Hid (truncD s n size = (1, s)) := Lib.hid (by rw [truncD, if_pos (by omega)])
      have g3 : n > 63 := g2
      clear h
      go_enter Tryz.func27, Tryz.ntmps27
      go_wp2_with fail
      go_ret
      rw [HE.out]
      exact ⟨rfl, H.out⟩
    · have g2' : ¬ n > 63 := by omega
      rcases Int.lt_or_le size 0 with g3 | g3
      · have HE : Hid (truncD s n size = (1, s)) := Lib.hid (by rw [truncD, if_pos (by omega)])
        clear h
        go_enter Tryz.func27, Tryz.ntmps27
        go_wp2_with fail
        go_ret
        rw [HE.out]
        exact ⟨rfl, H.out⟩
      · have g3' : ¬ size < 0 := by omega
        obtain ⟨j, rfl⟩ : ∃ j : Nat, n = (j : Int) := ⟨n.toNat, by omega⟩
        obtain ⟨k, rfl⟩ : ∃ k : Nat, size = (k : Int) := ⟨size.toNat, by omega⟩
        have hj : j < 64 := by omega
        obtain ⟨B, F, V, hok, h0⟩ := isRD_open h
        have c1 : w.cell? ⟨p, 1, none⟩ = some (.slice (some ⟨B, 0, none⟩) 64 64) := h0.cell 1
        have c3 : w.cell? ⟨p, 3, none⟩ = some (.bool s.off) := h0.cell 3
        obtain ⟨ba, bc, hVj, hsw⟩ := fokr_cell h0.p3 hj
        obtain ⟨l, hl⟩ : ∃ l, l = (s.fs j).1.length := ⟨_, rfl⟩
        rw [← hl] at hVj hsw
        have hcj : w.cell? ⟨B, j, none⟩ = some (.slice ba l bc) := by rw [h0.p1.cell j, rowC_get _ hj, hVj]
        have hfa : fileAt s.fs (j : Int) = s.fs j := by rw [fileAt, if_pos (by omega)]; rfl
        by_cases hs2 : l < k
        · have HE : Hid (truncD s (j : Int) (k : Int) = (1, s)) := Lib.hid (by rw [truncD, if_pos (by rw [hfa, ← hl]; omega)])
          have g4 : (k : Int) > (l : Int) := by omega
          clear h h0 hok hVj hsw hl hfa hs2
          go_enter Tryz.func27, Tryz.ntmps27
          go_wp2_with fail
          go_ret
          rw [HE.out]
          exact ⟨rfl, H.out⟩
        · have ht : truncD s (j : Int) (k : Int) = if s.off then (19, s) else if s.step.1 then (0, s.step.2.put j ((s.fs j).1.take k, min (s.fs j).2 k)) else (19, s.step.2) := by
            rw [truncD, if_neg (by rw [hfa, ← hl]; omega)]; rfl
          have g4 : ¬ (k : Int) > (l : Int) := by omega
          cases hoff : s.off with
          | true =>
            rw [hoff] at ht c3
            have HE : Hid (truncD s (j : Int) (k : Int) = (19, s)) := Lib.hid ht
            clear h h0 hok hVj hsw hl hfa hs2 ht hoff
            go_enter Tryz.func27, Tryz.ntmps27
            go_wp2_with fail
            go_ret
            rw [HE.out]
            exact ⟨rfl, H.out⟩
          | false =>
            rw [hoff] at ht c3
            simp only [Bool.false_eq_true, if_false] at ht
            have hst := rdstep_spec p s h hoff
            obtain ⟨t, htt⟩ : ∃ t, t = s.step.1 := ⟨_, rfl⟩
            obtain ⟨s', hs'⟩ : ∃ s', s' = s.step.2 := ⟨_, rfl⟩
            rw [← htt, ← hs'] at hst ht
            have hok' : s'.ok := by rw [hs']; exact hok.step
            have hfs' : s'.fs = s.fs ∧ s'.room = s.room := by rw [hs']; exact s.step_fs
            have HT := Lib.hid ht
            have HST := Lib.hid hst
            have HOK := Lib.hid (And.intro hok' (And.intro hfs' (And.intro hok hl)))
            have hkl : k ≤ l := by omega
            clear h h0 hok hVj hsw hfa hs2 ht hoff hst htt hs' hok' hfs' H hl
            go_enter Tryz.func27, Tryz.ntmps27
            go_wp2_with fail
            refine HST.out.mono ?_
            rintro e w2 ⟨rfl, h2⟩
            have H2 := Lib.hid h2
            clear HST h2 c1 c3 hcj
            cases t with
            | false =>
              have HE : Hid (truncD s (j : Int) (k : Int) = (19, s')) := Lib.hid HT.out
              go_wp2_with fail
              go_ret
              rw [HE.out]
              exact ⟨rfl, H2.out⟩
            | true =>
              have HE : Hid (truncD s (j : Int) (k : Int) = (0, s'.put j ((s.fs j).1.take k, min (s.fs j).2 k))) := Lib.hid HT.out
              obtain ⟨B, F, V, -, h3⟩ := isRD_open H2.out
              obtain ⟨ba, bc, hVj, hsw, h4⟩ := fokr_at h3.p3 hj
              rw [HOK.out.2.1.1, ← HOK.out.2.2.2] at hVj hsw h4
              obtain ⟨I, hk⟩ := h4.know
              obtain ⟨J, hIJ, hr, h5⟩ := hk.p1.learn
              have h6 : Sat W w2.drew (sep (blk p (.cells (rdC B F s') 50 (0, 0))) (sep (blk B (.cells (rowC V) 39 (0, 0))) (sep (blk F (.cells (rowC (firmV s'.fs)) 3 (0, 0))) (sep (fokr V s'.fs) (sep (kn J) A))))) := by
                have := h5.drew
                rw [HOK.out.2.1.1]
                simpa only [sep_comm, sep_lcomm, sep_assoc] using this
              have c1 : w2.drew.cell? ⟨p, 1, none⟩ = some (.slice (some ⟨B, 0, none⟩) 64 64) := h6.cell 1
              have hcj : w2.drew.cell? ⟨B, j, none⟩ = some (.slice ba l bc) := by rw [h6.p1.cell j, rowC_get _ hj, hVj]
              have hcz := h6.p1.unfrozen j
              have h7 := h6.p1.setCell j (.slice ba k bc)
              rw [rowC_set] at h7
              obtain ⟨w3, hw3⟩ : ∃ w3, w3 = w2.setCell ⟨B, j, none⟩ (.slice ba k bc) := ⟨_, rfl⟩
              have h8 : Sat W w3.drew (sep (blk B (.cells (rowC (vset V j (.slice ba k bc))) 39 (0, 0))) (sep (blk p (.cells (rdC B F s') 50 (0, 0))) (sep (blk F (.cells (rowC (firmV s'.fs)) 3 (0, 0))) (sep (fokr V s'.fs) (sep (kn J) A))))) := by rw [hw3]; exact h7
              obtain ⟨hrt, hlt⟩ := rel_take' k hkl hr
              rw [hlt] at hrt
              have c2 : w3.drew.drew.cell? ⟨p, 2, none⟩ = some (.slice (some ⟨F, 0, none⟩) 64 64) := h8.p1.drew.cell 2
              obtain ⟨d, hd⟩ : ∃ d, d = (s'.fs j).2 := ⟨_, rfl⟩
              have hcf : w3.drew.drew.cell? ⟨F, j, none⟩ = some (.int .i64 (d : Nat)) := by rw [h8.p2.drew.cell j, rowC_get _ hj, hd]; rfl
              have hfz := h8.p2.drew.unfrozen j
              obtain ⟨mn, hmn⟩ : ∃ mn, mn = min d k := ⟨_, rfl⟩
              have hmI : min (d : Int) (k : Int) = (mn : Int) := by omega
              have h9 := h8.p2.drew.setCell j (.int .i64 (mn : Nat))
              rw [rowC_set] at h9
              obtain ⟨w4, hw4⟩ : ∃ w4, w4 = (w3.setCell ⟨F, j, none⟩ (.int .i64 (mn : Nat))).drew.drew := ⟨_, rfl⟩
              have hdl : d ≤ l := by rw [hd, HOK.out.2.2.2, ← HOK.out.2.1.1]; exact HOK.out.1.dur j
              have hfin : Sat W w4 (sep (isRD p (s'.put j ((s.fs j).1.take k, min (s.fs j).2 k))) A) := by
                have hokp : (s'.put j ((s.fs j).1.take k, min (s.fs j).2 k)).ok := by
                  refine HOK.out.1.put hj (by show min (s.fs j).2 k ≤ ((s.fs j).1.take k).length; rw [hlt]; omega) ?_
                  have hf := HOK.out.1.fit
                  rw [hlt, HOK.out.2.1.1, ← HOK.out.2.2.2]
                  unfold DSt.used at hf ⊢
                  omega
                have hmn2 : mn = min (s.fs j).2 k := by rw [hmn, hd, HOK.out.2.1.1]
                have h10 : Sat W w4 (sep (fokr V s'.fs) (sep (kn J) (sep (blk p (.cells (rdC B F s') 50 (0, 0))) (sep (blk B (.cells (rowC (vset V j (.slice ba k bc))) 39 (0, 0))) (sep (blk F (.cells (rowC (vset (firmV s'.fs) j (.int .i64 (mn : Nat)))) 3 (0, 0))) A))))) := by
                  rw [hw4]
                  have : Sat W (w3.setCell ⟨F, j, none⟩ (.int .i64 (mn : Nat))).drew.drew _ := h9
                  simpa only [sep_comm, sep_lcomm, sep_assoc] using this
                have h11 := fokr_put j (d := mn) hrt h10
                refine isRD_mk (B := B) (F := F) (V := vset V j (.slice ba k bc)) hokp ?_
                show Sat W w4 (sep (blk p (.cells (rdC B F s') 50 (0, 0))) (sep (blk B (.cells (rowC (vset V j (.slice ba k bc))) 39 (0, 0))) (sep (blk F (.cells (rowC (firmV (dset s'.fs j ((s.fs j).1.take k, min (s.fs j).2 k)))) 3 (0, 0))) (sep (fokr (vset V j (.slice ba k bc)) (dset s'.fs j ((s.fs j).1.take k, min (s.fs j).2 k))) A))))
                rw [firm_put, ← hmn2]
                have h12 := h11.p1.drop
                simpa only [sep_comm, sep_lcomm, sep_assoc] using h12
              have HFIN := Lib.hid hfin
              have HW3 := Lib.hid hw3
              have HW4 := Lib.hid hw4
              have hS0 : True := trivial
              have hkc : (k : Int) ≤ (bc : Int) := by have := hsw.1; omega
              have hk0 : (0 : Int) ≤ (k : Int) := by omega
              have hbc : bc ≤ 9223372036854775807 := hsw.2.1
              have hj64 : (j : Int) < 64 := by omega
              clear hfin hw3 hw4 h3 h4 hk hr h5 h6 h7 h8 h9 hrt hlt hmn hd hVj hsw H2
              go_wp2_with fail
              refine wp_region_canon rfl (fun _ => True) [(0, .p), (1, .p), (2, .p), (3, .t), (4, .p), (5, .p), (6, .p), (7, .p), (8, .t), (9, .p), (10, .p), (11, .t), (12, .p), (13, .p), (14, .p), (15, .e false)] (by kernel_rfl) ?_
              (repeat (first | (refine C_p (v := ?_) rfl rfl (fun w' => ?_) ?_; rotate_left; (go_simp; with_reducible rfl); simp only [Act.put, List.setIfInBounds_toArray, List.set_cons_zero, List.set_cons_succ]) | (refine C_s (v := ?_) rfl rfl hS0 (fun w' hS => ?_) ?_; rotate_left; ((try dsimp only at hS); go_simp; with_reducible rfl); simp only [Act.put, List.setIfInBounds_toArray, List.set_cons_zero, List.set_cons_succ]) | (refine C_t (v := ?_) rfl rfl ?_ ?_; rotate_left; (go_simp; with_reducible rfl); simp only [Act.put, List.setIfInBounds_toArray, List.set_cons_zero, List.set_cons_succ]) | (refine C_po rfl rfl ?_; simp only [Act.put, List.setIfInBounds_toArray, List.set_cons_zero, List.set_cons_succ]) | (refine C_so rfl rfl hS0 ?_; simp only [Act.put, List.setIfInBounds_toArray, List.set_cons_zero, List.set_cons_succ]) | (refine C_to rfl rfl ?_; simp only [Act.put, List.setIfInBounds_toArray, List.set_cons_zero, List.set_cons_succ])))
              (refine C_e rfl rfl (fun K hK => ?_); go_simp)
              rw [← HW3.out]
              clear c1 hcj hcz
              (refine hK _ _ (fun h => by cases h) ?_; clear hK K; (try simp only [Act.put, List.setIfInBounds_toArray, List.set_cons_zero, List.set_cons_succ]))
              refine C_nil ?_
              go_wp2_with fail
              refine wp_region_canon rfl (fun _ => True) [(0, .p), (1, .p), (2, .p), (3, .t), (4, .p), (5, .p), (6, .p), (7, .p), (8, .t), (9, .p), (10, .p), (11, .t), (12, .p), (13, .p), (14, .p), (15, .e false)] (by kernel_rfl) ?_
              (repeat (first | (refine C_p (v := ?_) rfl rfl (fun w' => ?_) ?_; rotate_left; (go_simp; with_reducible rfl); simp only [Act.put, List.setIfInBounds_toArray, List.set_cons_zero, List.set_cons_succ]) | (refine C_s (v := ?_) rfl rfl hS0 (fun w' hS => ?_) ?_; rotate_left; ((try dsimp only at hS); go_simp; with_reducible rfl); simp only [Act.put, List.setIfInBounds_toArray, List.set_cons_zero, List.set_cons_succ]) | (refine C_t (v := ?_) rfl rfl ?_ ?_; rotate_left; (go_simp; with_reducible rfl); simp only [Act.put, List.setIfInBounds_toArray, List.set_cons_zero, List.set_cons_succ]) | (refine C_po rfl rfl ?_; simp only [Act.put, List.setIfInBounds_toArray, List.set_cons_zero, List.set_cons_succ]) | (refine C_so rfl rfl hS0 ?_; simp only [Act.put, List.setIfInBounds_toArray, List.set_cons_zero, List.set_cons_succ]) | (refine C_to rfl rfl ?_; simp only [Act.put, List.setIfInBounds_toArray, List.set_cons_zero, List.set_cons_succ])))
              (refine C_e rfl rfl (fun K hK => ?_); go_simp)
              rw [← HW4.out]
              clear c2 hcf hfz
              (refine hK _ _ (fun h => by cases h) ?_; clear hK K; (try simp only [Act.put, List.setIfInBounds_toArray, List.set_cons_zero, List.set_cons_succ]))
              refine C_nil ?_
              go_wp2_with fail
              go_ret
              rw [HE.out]
              exact ⟨rfl, HFIN.out⟩
end Go.Proofs.YtdaknmcmjnbfeaaGreat
/- The reference's disk: Copy. -/
namespace Go.Proofs.YtdaknmcmjnbfeaaGreat
open Go.RowKit PA
def copyTo (fs : Nat → File) (i : Nat) : Nat → File := fun j => if j < i then fs j else ([], 0)
theorem copyTo_all {s : DSt} (h : s.ok) : copyTo s.fs 64 = s.fs := by
  funext j
  unfold copyTo
  split
  · rfl
  · exact (h.hi j (by omega)).symm
theorem copyTo_firm (fs : Nat → File) (i : Nat) : rowC (vset (firmV (copyTo fs i)) i (.int .i64 ((fs i).2 : Nat))) = rowC (firmV (copyTo fs (i + 1))) := by
  refine rowC_congr fun j _ => ?_
  unfold vset firmV copyTo
  by_cases h1 : j = i
  · subst h1; simp
  · by_cases h2 : j < i
    · simp [h1, h2, show j < i + 1 by omega]
    · simp [h1, h2, show ¬ j < i + 1 by omega]
def CopyI (W : World) (A : Assn) (q B2 F2 p : Nat) (s : DSt) (i : Nat) (wr : World) : Prop :=
  ∃ V2 : Nat → Value, (∀ j, i ≤ j → V2 j = .slice none 0 0) ∧ Sat W wr (sep (blk q (.cells (rdC B2 F2 (newD s.room)) 50 (0, 0))) (sep (blk B2 (.cells (rowC V2) 39 (0, 0))) (sep (blk F2 (.cells (rowC (firmV (copyTo s.fs i))) 3 (0, 0))) (sep (fokr V2 (copyTo s.fs i)) (sep (isRD p s) A)))))
theorem CopyI.step {W w5 : World} {A : Assn} {I : Mem} {q B2 F2 p i l c : Nat} {a : Option Addr} {s : DSt} {V2 : Nat → Value} (hi : i < 64) (hV : ∀ j, i ≤ j → V2 j = .slice none 0 0) (hr : rBytes.rel I [.slice a l c] (s.fs i).1)
    (h : Sat W w5 (sep (blk B2 (.cells (rowC (vset V2 i (.slice a l c))) 39 (0, 0))) (sep (blk F2 (.cells (rowC (vset (firmV (copyTo s.fs i)) i (.int .i64 ((s.fs i).2 : Nat)))) 3 (0, 0))) (sep (blk q (.cells (rdC B2 F2 (newD s.room)) 50 (0, 0))) (sep (fokr V2 (copyTo s.fs i)) (sep (kn I) (sep (isRD p s) A)))))))
    : CopyI W A q B2 F2 p s (i + 1) w5 := by
  refine ⟨vset V2 i (.slice a l c), fun j hj => ?_, ?_⟩
  · unfold vset; rw [if_neg (by omega)]; exact hV j (by omega)
  · rw [← copyTo_firm]
    have h1 : Sat W w5 (sep (fokr V2 (copyTo s.fs i)) (sep (kn I) (sep (blk q (.cells (rdC B2 F2 (newD s.room)) 50 (0, 0))) (sep (blk B2 (.cells (rowC (vset V2 i (.slice a l c))) 39 (0, 0))) (sep (blk F2 (.cells (rowC (vset (firmV (copyTo s.fs i)) i (.int .i64 ((s.fs i).2 : Nat)))) 3 (0, 0))) (sep (isRD p s) A)))))) := by
      simpa only [sep_comm, sep_lcomm, sep_assoc] using h
    have h2 : Sat W w5 (sep (fokr (vset V2 i (.slice a l c)) (copyTo s.fs (i + 1))) (sep (kn I) (sep (blk q (.cells (rdC B2 F2 (newD s.room)) 50 (0, 0))) (sep (blk B2 (.cells (rowC (vset V2 i (.slice a l c))) 39 (0, 0))) (sep (blk F2 (.cells (rowC (vset (firmV (copyTo s.fs i)) i (.int .i64 ((s.fs i).2 : Nat)))) 3 (0, 0))) (sep (isRD p s) A)))))) := by
      refine h1.wk ?_
      rintro J m ⟨x, y, g1, rfl, ⟨rfl, g2⟩, x', y', g3, rfl, ⟨rfl, hle⟩, g4⟩
      refine ⟨Mem.no, _, g1, rfl, ⟨rfl, fun j hj => ?_⟩, Mem.no, y', g3, rfl, ⟨rfl, hle⟩, g4⟩
      unfold vset
      by_cases e : j = i
      · subst e; simp only [if_true, copyTo, show j < j + 1 by omega]; exact rBytes.mono hle hr
      · rw [if_neg e]
        have := g2 j hj
        unfold copyTo at this ⊢
        by_cases e2 : j < i
        · rw [if_pos e2] at this; rw [if_pos (by omega)]; exact this
        · rw [if_neg e2] at this; rw [if_neg (by omega)]; exact this
    have h3 := h2.p1.drop
    simpa only [sep_comm, sep_lcomm, sep_assoc] using h3
end Go.Proofs.YtdaknmcmjnbfeaaGreat
