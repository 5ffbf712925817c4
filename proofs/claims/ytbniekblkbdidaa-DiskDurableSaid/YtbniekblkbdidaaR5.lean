/- The reference's disk: Truncate, Rot. -/
import Derived.Test.YtbniekblkbdidaaR4
namespace Go.Proofs.Ytbniekblkbdidaa
open Go.RowKit PA
set_option maxRecDepth 100000 in
set_option maxHeartbeats 4000000 in
theorem rdtrunc_spec {W w : World} {A : Assn} (p : Nat) (s : DSt) (n size : Int) (h : Sat W w (sep (isRD p s) A)) :
    Calls Try.prog 44 #[.pointer (some ⟨p, 0, none⟩), .int .i64 n, .int .i64 size] w fun e w' => e = .returned (.int .i64 (truncD s n size).1) ∧ Sat W w' (sep (isRD p (truncD s n size).2) A) := by
  have H := Lib.hid h
  rcases Int.lt_or_le n 0 with g1 | g1
  · have HE : Hid (truncD s n size = (1, s)) := Lib.hid (by rw [truncD, if_pos (by omega)])
    clear h
    go_enter Try.func44, Try.ntmps44
    go_wp2_with fail
    go_ret
    rw [HE.out]
    exact ⟨rfl, H.out⟩
  · have g1' : ¬ n < 0 := by omega
    rcases Int.lt_or_le 63 n with g2 | g2
    · have HE : Hid (truncD s n size = (1, s)) := Lib.hid (by rw [truncD, if_pos (by omega)])
      have g3 : n > 63 := g2
      clear h
      go_enter Try.func44, Try.ntmps44
      go_wp2_with fail
      go_ret
      rw [HE.out]
      exact ⟨rfl, H.out⟩
    · have g2' : ¬ n > 63 := by omega
      rcases Int.lt_or_le size 0 with g3 | g3
      · have HE : Hid (truncD s n size = (1, s)) := Lib.hid (by rw [truncD, if_pos (by omega)])
        clear h
        go_enter Try.func44, Try.ntmps44
        go_wp2_with fail
        go_ret
        rw [HE.out]
        exact ⟨rfl, H.out⟩
      · have g3' : ¬ size < 0 := by omega
        obtain ⟨j, rfl⟩ : ∃ j : Nat, n = (j : Int) := ⟨n.toNat, by omega⟩
        obtain ⟨k, rfl⟩ : ∃ k : Nat, size = (k : Int) := ⟨size.toNat, by omega⟩
        have hj : j < 64 := by omega
        obtain ⟨B, F, V, hok, h0⟩ := isRD_open h
        have c1 : w.cell? ⟨p, 1, none⟩ = some (.slice (some ⟨B, 0, none⟩) 64 64) := h0.cell 1
        have c3 : w.cell? ⟨p, 3, none⟩ = some (.bool s.off) := h0.cell 3
        obtain ⟨ba, bc, hVj, hsw⟩ := fokr_cell h0.p3 hj
        obtain ⟨l, hl⟩ : ∃ l, l = (s.fs j).1.length := ⟨_, rfl⟩
        rw [← hl] at hVj hsw
        have hcj : w.cell? ⟨B, j, none⟩ = some (.slice ba l bc) := by rw [h0.p1.cell j, rowC_get _ hj, hVj]
        have hfa : fileAt s.fs (j : Int) = s.fs j := by rw [fileAt, if_pos (by omega)]; rfl
        by_cases hs2 : l < k
        · have HE : Hid (truncD s (j : Int) (k : Int) = (1, s)) := Lib.hid (by rw [truncD, if_pos (by rw [hfa, ← hl]; omega)])
          have g4 : (k : Int) > (l : Int) := by omega
          clear h h0 hok hVj hsw hl hfa hs2
          go_enter Try.func44, Try.ntmps44
          go_wp2_with fail
          go_ret
          rw [HE.out]
          exact ⟨rfl, H.out⟩
        · have ht : truncD s (j : Int) (k : Int) = if s.off then (19, s) else if s.step.1 then (0, s.step.2.put j ((s.fs j).1.take k, min (s.fs j).2 k)) else (19, s.step.2) := by
            rw [truncD, if_neg (by rw [hfa, ← hl]; omega)]; rfl
          have g4 : ¬ (k : Int) > (l : Int) := by omega
          cases hoff : s.off with
          | true =>
            rw [hoff] at ht c3
            have HE : Hid (truncD s (j : Int) (k : Int) = (19, s)) := Lib.hid ht
            clear h h0 hok hVj hsw hl hfa hs2 ht hoff
            go_enter Try.func44, Try.ntmps44
            go_wp2_with fail
            go_ret
            rw [HE.out]
            exact ⟨rfl, H.out⟩
          | false =>
            rw [hoff] at ht c3
            simp only [Bool.false_eq_true, if_false] at ht
            have hst := rdstep_spec p s h hoff
            obtain ⟨t, htt⟩ : ∃ t, t = s.step.1 := ⟨_, rfl⟩
            obtain ⟨s', hs'⟩ : ∃ s', s' = s.step.2 := ⟨_, rfl⟩
            rw [← htt, ← hs'] at hst ht
            have hok' : s'.ok := by rw [hs']; exact hok.step
            have hfs' : s'.fs = s.fs ∧ s'.room = s.room := by rw [hs']; exact s.step_fs
            have HT := Lib.hid ht
            have HST := Lib.hid hst
            have HOK := Lib.hid (And.intro hok' (And.intro hfs' (And.intro hok hl)))
            have hkl : k ≤ l := by omega
            clear h h0 hok hVj hsw hfa hs2 ht hoff hst htt hs' hok' hfs' H hl
            go_enter Try.func44, Try.ntmps44
            go_wp2_with fail
            refine HST.out.mono ?_
            rintro e w2 ⟨rfl, h2⟩
            have H2 := Lib.hid h2
            clear HST h2 c1 c3 hcj
            cases t with
            | false =>
              have HE : Hid (truncD s (j : Int) (k : Int) = (19, s')) := Lib.hid HT.out
              go_wp2_with fail
              go_ret
              rw [HE.out]
              exact ⟨rfl, H2.out⟩
            | true =>
              have HE : Hid (truncD s (j : Int) (k : Int) = (0, s'.put j ((s.fs j).1.take k, min (s.fs j).2 k))) := Lib.hid HT.out
              obtain ⟨B, F, V, -, h3⟩ := isRD_open H2.out
              obtain ⟨ba, bc, hVj, hsw, h4⟩ := fokr_at h3.p3 hj
              rw [HOK.out.2.1.1, ← HOK.out.2.2.2] at hVj hsw h4
              obtain ⟨I, hk⟩ := h4.know
              obtain ⟨J, hIJ, hr, h5⟩ := hk.p1.learn
              have h6 : Sat W w2.drew (sep (blk p (.cells (rdC B F s') 58 (0, 0))) (sep (blk B (.cells (rowC V) 27 (0, 0))) (sep (blk F (.cells (rowC (firmV s'.fs)) 3 (0, 0))) (sep (fokr V s'.fs) (sep (kn J) A))))) := by
                have := h5.drew
                rw [HOK.out.2.1.1]
                simpa only [sep_comm, sep_lcomm, sep_assoc] using this
              have c1 : w2.drew.cell? ⟨p, 1, none⟩ = some (.slice (some ⟨B, 0, none⟩) 64 64) := h6.cell 1
              have hcj : w2.drew.cell? ⟨B, j, none⟩ = some (.slice ba l bc) := by rw [h6.p1.cell j, rowC_get _ hj, hVj]
              have hcz := h6.p1.unfrozen j
              have h7 := h6.p1.setCell j (.slice ba k bc)
              rw [rowC_set] at h7
              obtain ⟨w3, hw3⟩ : ∃ w3, w3 = w2.setCell ⟨B, j, none⟩ (.slice ba k bc) := ⟨_, rfl⟩
              have h8 : Sat W w3.drew (sep (blk B (.cells (rowC (vset V j (.slice ba k bc))) 27 (0, 0))) (sep (blk p (.cells (rdC B F s') 58 (0, 0))) (sep (blk F (.cells (rowC (firmV s'.fs)) 3 (0, 0))) (sep (fokr V s'.fs) (sep (kn J) A))))) := by rw [hw3]; exact h7
              obtain ⟨hrt, hlt⟩ := rel_take' k hkl hr
              rw [hlt] at hrt
              have c2 : w3.drew.drew.cell? ⟨p, 2, none⟩ = some (.slice (some ⟨F, 0, none⟩) 64 64) := h8.p1.drew.cell 2
              obtain ⟨d, hd⟩ : ∃ d, d = (s'.fs j).2 := ⟨_, rfl⟩
              have hcf : w3.drew.drew.cell? ⟨F, j, none⟩ = some (.int .i64 (d : Nat)) := by rw [h8.p2.drew.cell j, rowC_get _ hj, hd]; rfl
              have hfz := h8.p2.drew.unfrozen j
              obtain ⟨mn, hmn⟩ : ∃ mn, mn = min d k := ⟨_, rfl⟩
              have hmI : min (d : Int) (k : Int) = (mn : Int) := by omega
              have h9 := h8.p2.drew.setCell j (.int .i64 (mn : Nat))
              rw [rowC_set] at h9
              obtain ⟨w4, hw4⟩ : ∃ w4, w4 = (w3.setCell ⟨F, j, none⟩ (.int .i64 (mn : Nat))).drew.drew := ⟨_, rfl⟩
              have hdl : d ≤ l := by rw [hd, HOK.out.2.2.2, ← HOK.out.2.1.1]; exact HOK.out.1.dur j
              have hfin : Sat W w4 (sep (isRD p (s'.put j ((s.fs j).1.take k, min (s.fs j).2 k))) A) := by
                have hokp : (s'.put j ((s.fs j).1.take k, min (s.fs j).2 k)).ok := by
                  refine HOK.out.1.put hj (by show min (s.fs j).2 k ≤ ((s.fs j).1.take k).length; rw [hlt]; omega) ?_
                  have hf := HOK.out.1.fit
                  rw [hlt, HOK.out.2.1.1, ← HOK.out.2.2.2]
                  unfold DSt.used at hf ⊢
                  omega
                have hmn2 : mn = min (s.fs j).2 k := by rw [hmn, hd, HOK.out.2.1.1]
                have h10 : Sat W w4 (sep (fokr V s'.fs) (sep (kn J) (sep (blk p (.cells (rdC B F s') 58 (0, 0))) (sep (blk B (.cells (rowC (vset V j (.slice ba k bc))) 27 (0, 0))) (sep (blk F (.cells (rowC (vset (firmV s'.fs) j (.int .i64 (mn : Nat)))) 3 (0, 0))) A))))) := by
                  rw [hw4]
                  have : Sat W (w3.setCell ⟨F, j, none⟩ (.int .i64 (mn : Nat))).drew.drew _ := h9
                  simpa only [sep_comm, sep_lcomm, sep_assoc] using this
                have h11 := fokr_put j (d := mn) hrt h10
                refine isRD_mk (B := B) (F := F) (V := vset V j (.slice ba k bc)) hokp ?_
                show Sat W w4 (sep (blk p (.cells (rdC B F s') 58 (0, 0))) (sep (blk B (.cells (rowC (vset V j (.slice ba k bc))) 27 (0, 0))) (sep (blk F (.cells (rowC (firmV (dset s'.fs j ((s.fs j).1.take k, min (s.fs j).2 k)))) 3 (0, 0))) (sep (fokr (vset V j (.slice ba k bc)) (dset s'.fs j ((s.fs j).1.take k, min (s.fs j).2 k))) A))))
                rw [firm_put, ← hmn2]
                have h12 := h11.p1.drop
                simpa only [sep_comm, sep_lcomm, sep_assoc] using h12
              have HFIN := Lib.hid hfin
              have HW3 := Lib.hid hw3
              have HW4 := Lib.hid hw4
              have hS0 : True := trivial
              have hkc : (k : Int) ≤ (bc : Int) := by have := hsw.1; omega
              have hk0 : (0 : Int) ≤ (k : Int) := by omega
              have hbc : bc ≤ 9223372036854775807 := hsw.2.1
              have hj64 : (j : Int) < 64 := by omega
              clear hfin hw3 hw4 h3 h4 hk hr h5 h6 h7 h8 h9 hrt hlt hmn hd hVj hsw H2
              go_wp2_with fail
              refine wp_region_canon rfl (fun _ => True) [(0, .p), (1, .p), (2, .p), (3, .t), (4, .p), (5, .p), (6, .p), (7, .p), (8, .t), (9, .p), (10, .p), (11, .t), (12, .p), (13, .p), (14, .p), (15, .e false)] (by kernel_rfl) ?_
              (repeat (first | (refine C_p (v := ?_) rfl rfl (fun w' => ?_) ?_; rotate_left; (go_simp; with_reducible rfl); simp only [Act.put, List.setIfInBounds_toArray, List.set_cons_zero, List.set_cons_succ]) | (refine C_s (v := ?_) rfl rfl hS0 (fun w' hS => ?_) ?_; rotate_left; ((try dsimp only at hS); go_simp; with_reducible rfl); simp only [Act.put, List.setIfInBounds_toArray, List.set_cons_zero, List.set_cons_succ]) | (refine C_t (v := ?_) rfl rfl ?_ ?_; rotate_left; (go_simp; with_reducible rfl); simp only [Act.put, List.setIfInBounds_toArray, List.set_cons_zero, List.set_cons_succ]) | (refine C_po rfl rfl ?_; simp only [Act.put, List.setIfInBounds_toArray, List.set_cons_zero, List.set_cons_succ]) | (refine C_so rfl rfl hS0 ?_; simp only [Act.put, List.setIfInBounds_toArray, List.set_cons_zero, List.set_cons_succ]) | (refine C_to rfl rfl ?_; simp only [Act.put, List.setIfInBounds_toArray, List.set_cons_zero, List.set_cons_succ])))
              (refine C_e rfl rfl (fun K hK => ?_); go_simp)
              rw [← HW3.out]
              clear c1 hcj hcz
              (refine hK _ _ (fun h => by cases h) ?_; clear hK K; (try simp only [Act.put, List.setIfInBounds_toArray, List.set_cons_zero, List.set_cons_succ]))
              refine C_nil ?_
              go_wp2_with fail
              refine wp_region_canon rfl (fun _ => True) [(0, .p), (1, .p), (2, .p), (3, .t), (4, .p), (5, .p), (6, .p), (7, .p), (8, .t), (9, .p), (10, .p), (11, .t), (12, .p), (13, .p), (14, .p), (15, .e false)] (by kernel_rfl) ?_
              (repeat (first | (refine C_p (v := ?_) rfl rfl (fun w' => ?_) ?_; rotate_left; (go_simp; with_reducible rfl); simp only [Act.put, List.setIfInBounds_toArray, List.set_cons_zero, List.set_cons_succ]) | (refine C_s (v := ?_) rfl rfl hS0 (fun w' hS => ?_) ?_; rotate_left; ((try dsimp only at hS); go_simp; with_reducible rfl); simp only [Act.put, List.setIfInBounds_toArray, List.set_cons_zero, List.set_cons_succ]) | (refine C_t (v := ?_) rfl rfl ?_ ?_; rotate_left; (go_simp; with_reducible rfl); simp only [Act.put, List.setIfInBounds_toArray, List.set_cons_zero, List.set_cons_succ]) | (refine C_po rfl rfl ?_; simp only [Act.put, List.setIfInBounds_toArray, List.set_cons_zero, List.set_cons_succ]) | (refine C_so rfl rfl hS0 ?_; simp only [Act.put, List.setIfInBounds_toArray, List.set_cons_zero, List.set_cons_succ]) | (refine C_to rfl rfl ?_; simp only [Act.put, List.setIfInBounds_toArray, List.set_cons_zero, List.set_cons_succ])))
              (refine C_e rfl rfl (fun K hK => ?_); go_simp)
              rw [← HW4.out]
              clear c2 hcf hfz
              (refine hK _ _ (fun h => by cases h) ?_; clear hK K; (try simp only [Act.put, List.setIfInBounds_toArray, List.set_cons_zero, List.set_cons_succ]))
              refine C_nil ?_
              go_wp2_with fail
              go_ret
              rw [HE.out]
              exact ⟨rfl, HFIN.out⟩
set_option maxRecDepth 100000 in
set_option maxHeartbeats 4000000 in
theorem rdrot_spec {W w : World} {A : Assn} (p : Nat) (s : DSt) (n bit : Int) (h : Sat W w (sep (isRD p s) A)) (hbit : I64' bit) :
    Calls Try.prog 35 #[.pointer (some ⟨p, 0, none⟩), .int .i64 n, .int .i64 bit] w fun e w' => e = .returned (.int .i64 (rotD s n bit).1) ∧ Sat W w' (sep (isRD p (rotD s n bit).2) A) := by
  have H := Lib.hid h
  rcases Int.lt_or_le n 0 with g1 | g1
  · have HE : Hid (rotD s n bit = (1, s)) := Lib.hid (by rw [rotD, if_pos (by omega)])
    clear h hbit
    go_enter Try.func35, Try.ntmps35
    go_wp2_with fail
    go_ret
    rw [HE.out]
    exact ⟨rfl, H.out⟩
  · have g1' : ¬ n < 0 := by omega
    rcases Int.lt_or_le 63 n with g2 | g2
    · have HE : Hid (rotD s n bit = (1, s)) := Lib.hid (by rw [rotD, if_pos (by omega)])
      have g3 : n > 63 := g2
      clear h hbit
      go_enter Try.func35, Try.ntmps35
      go_wp2_with fail
      go_ret
      rw [HE.out]
      exact ⟨rfl, H.out⟩
    · have g2' : ¬ n > 63 := by omega
      rcases Int.lt_or_le bit 0 with g3 | g3
      · have HE : Hid (rotD s n bit = (1, s)) := Lib.hid (by rw [rotD, if_pos (by omega)])
        clear h hbit
        go_enter Try.func35, Try.ntmps35
        go_wp2_with fail
        go_ret
        rw [HE.out]
        exact ⟨rfl, H.out⟩
      · have g3' : ¬ bit < 0 := by omega
        obtain ⟨j, rfl⟩ : ∃ j : Nat, n = (j : Int) := ⟨n.toNat, by omega⟩
        obtain ⟨k, rfl⟩ : ∃ k : Nat, bit = (k : Int) := ⟨bit.toNat, by omega⟩
        have hj : j < 64 := by omega
        have hj64 : (j : Int) < 64 := by omega
        obtain ⟨i, hi⟩ : ∃ i, i = k / 8 := ⟨_, rfl⟩
        obtain ⟨r, hr⟩ : ∃ r, r = k % 8 := ⟨_, rfl⟩
        have hdI : (k : Int).tdiv 8 = (i : Int) := by rw [Int.tdiv_eq_ediv_of_nonneg (by omega)]; omega
        have hsI : (k : Int).tmod 8 = (r : Int) := by rw [Int.tmod_eq_emod_of_nonneg (by omega)]; omega
        have hi1 : (0 : Int) ≤ (i : Int) := by omega
        have hi2 : (i : Int) ≤ 9223372036854775807 := by have := hbit.2; omega
        have hwi : IntKind.i64.wrap (i : Int) = (i : Int) := IntWalk.i64_in _ (by omega)
        obtain ⟨B, F, V, hok, h0⟩ := isRD_open h
        have c1 : w.cell? ⟨p, 1, none⟩ = some (.slice (some ⟨B, 0, none⟩) 64 64) := h0.cell 1
        obtain ⟨ba, bc, hVj, hsw, h1⟩ := fokr_at h0.p3 hj
        obtain ⟨bs, hbs⟩ : ∃ bs, bs = (s.fs j).1 := ⟨_, rfl⟩
        rw [← hbs] at hVj hsw h1
        obtain ⟨l, hl⟩ : ∃ l, l = bs.length := ⟨_, rfl⟩
        rw [← hl] at hVj hsw h1
        have hll : l ≤ 16777216 := by rw [hl, hbs]; exact file_le hok j
        have hcj : w.cell? ⟨B, j, none⟩ = some (.slice ba l bc) := by rw [h0.p1.cell j, rowC_get _ hj, hVj]
        have hfa : fileAt s.fs (j : Int) = s.fs j := by rw [fileAt, if_pos (by omega)]; rfl
        by_cases hs2 : l ≤ i
        · have HE : Hid (rotD s (j : Int) (k : Int) = (1, s)) := Lib.hid (by rw [rotD, if_pos (by rw [hfa, ← hbs, ← hl, Int.toNat_natCast, ← hi]; omega)])
          have g4 : (i : Int) ≥ (l : Int) := by omega
          clear h h0 hok hVj hsw hl hfa hs2 hbit hi hr h1 hbs
          go_enter Try.func35, Try.ntmps35
          go_wp2_with fail
          go_ret
          rw [HE.out]
          exact ⟨rfl, H.out⟩
        · have HE : Hid (rotD s (j : Int) (k : Int) = (0, s.put j (flipAt bs k, (s.fs j).2))) := Lib.hid (by
            rw [rotD, if_neg (by rw [hfa, ← hbs, ← hl, Int.toNat_natCast, ← hi]; omega), hbs]; rfl)
          have g4 : ¬ (i : Int) ≥ (l : Int) := by omega
          have hil : i < l := by omega
          obtain ⟨I, hk⟩ := h1.know
          obtain ⟨J, hIJ, hrl, h2⟩ := hk.p1.learn
          obtain ⟨s1, s2, s3⟩ := rel_src' hrl
          have hsrc := s3 w h2.ext
          have hn0 : ba = none → l = 0 := fun e => by have := s2.2.2 e; have := s2.1; omega
          have h3 := h2.osl_nil 5 1
          have HSRC := Lib.hid hsrc
          have HN0 := Lib.hid hn0
          have HB := Lib.hid (And.intro hbs (And.intro hl (And.intro hi (And.intro hr hok))))
          have hr8 : r < 8 := by omega
          clear h h0 hok hVj hsw hl hfa hs2 hbit hi hr h1 hbs hk hrl h2 s1 s2 s3 hsrc hn0 H
          go_enter Try.func35, Try.ntmps35
          go_wp2_with (at_builtin; refine wpl_append_osl rfl (.tmp 31) (.tmp 38) 27 rfl 5 1 1 (.int .u8 0) Try.underlying27 infoU8d rfl rfl h3 rfl (bs.map bv) (by rw [List.length_map, HB.out.2.1]; simp) HN0.out HSRC.out (bv_one bs) (by omega) (by unfold maxLen; omega) ?_)
          intro a4 c4 w4 h4
          have hbl : i < bs.length := by rw [← HB.out.2.1]; exact hil
          obtain ⟨g, rfl, hgc, hgf, hset⟩ := h4.osl_set i (by simpa using hbl) (.int .u8 ((flipB bs[i] r).toNat : Int))
          rw [List.getElem_map] at hgc
          obtain ⟨x, hx⟩ : ∃ x, x = bs[i] := ⟨_, rfl⟩
          rw [← hx] at hgc hset
          have hgc' : w4.cell? ⟨g, i, none⟩ = some (.int .u8 (x.toNat : Nat)) := hgc
          have hfv := flip_val x r
          obtain ⟨m, hm⟩ : ∃ m, m = 7 - r := ⟨_, rfl⟩
          rw [← hm] at hfv
          have h7 : (7 : Int) - (r : Int) = (m : Int) := by omega
          have hm8 : m < 8 := by omega
          have hfl : bs.set i (flipB x r) = flipAt bs k := by
            have hk := HB.out
            apply List.ext_getElem
            · simp [flipAt]
            · intro y h1 h2
              simp only [flipAt, List.getElem_set, List.getElem_modify, ← hk.2.2.1, ← hk.2.2.2.1]
              split
              · rename_i e; subst e; rw [hx]
              · rfl
          rw [show (bs.map bv).set i (.int .u8 ((flipB x r).toNat : Int)) = (bs.set i (flipB x r)).map bv by rw [List.map_set]; rfl, hfl] at hset
          have hfll : (flipAt bs k).length = l := by rw [flipAt_len, ← HB.out.2.1]
          obtain ⟨w5, hw5⟩ : ∃ w5, w5 = w4.setCell ⟨g, i, none⟩ (.int .u8 ((flipB x r).toNat : Nat)) := ⟨_, rfl⟩
          have hset2 : Sat W w5 (sep (osl 5 1 (some ⟨g, 0, none⟩) l c4 ((flipAt bs k).map bv)) (sep (kn J) (sep (fokr V s.fs) (sep (blk p (.cells (rdC B F s) 58 (0, 0))) (sep (blk B (.cells (rowC V) 27 (0, 0))) (sep (blk F (.cells (rowC (firmV s.fs)) 3 (0, 0))) A)))))) := by rw [hw5]; exact hset
          obtain ⟨KM, hJK, hrn, h8⟩ := (show Sat W w5 (sep (rBytes.is [.slice (some ⟨g, 0, none⟩) l c4] (flipAt bs k)) (sep (kn J) _)) from hset2.bytes_of_osl.2).learn
          have c1' : w5.cell? ⟨p, 1, none⟩ = some (.slice (some ⟨B, 0, none⟩) 64 64) := h8.p2.cell 1
          have hcj' : w5.cell? ⟨B, j, none⟩ = some (V j) := by rw [h8.p3.cell j, rowC_get _ hj]
          have hcz' := h8.p3.unfrozen j
          have h9 := h8.p3.setCell j (.slice (some ⟨g, 0, none⟩) l c4)
          rw [rowC_set] at h9
          obtain ⟨w6, hw6⟩ : ∃ w6, w6 = w5.setCell ⟨B, j, none⟩ (.slice (some ⟨g, 0, none⟩) l c4) := ⟨_, rfl⟩
          rw [← hw6] at h9
          have hfin : Sat W w6 (sep (isRD p (s.put j (flipAt bs k, (s.fs j).2))) A) := by
            have hk := HB.out
            have hokp : (s.put j (flipAt bs k, (s.fs j).2)).ok := by
              refine hk.2.2.2.2.put hj (by show (s.fs j).2 ≤ (flipAt bs k).length; rw [hfll, hk.2.1, hk.1]; exact hk.2.2.2.2.dur j) ?_
              show s.used + (flipAt bs k).length ≤ s.room + (s.fs j).1.length
              rw [hfll, ← hk.1, ← hk.2.1]
              have := hk.2.2.2.2.fit
              omega
            have h11 := fokr_put (fs := s.fs) (V := V) j (d := (s.fs j).2) hrn (show Sat W w6 (sep (fokr V s.fs) (sep (kn KM) (sep (blk p (.cells (rdC B F s) 58 (0, 0))) (sep (blk B (.cells (rowC (vset V j (.slice (some ⟨g, 0, none⟩) l c4))) 27 (0, 0))) (sep (blk F (.cells (rowC (firmV s.fs)) 3 (0, 0))) A))))) by simpa only [sep_comm, sep_lcomm, sep_assoc] using h9)
            refine isRD_mk (B := B) (F := F) (V := vset V j (.slice (some ⟨g, 0, none⟩) l c4)) hokp ?_
            show Sat W w6 (sep (blk p (.cells (rdC B F s) 58 (0, 0))) (sep (blk B (.cells (rowC (vset V j (.slice (some ⟨g, 0, none⟩) l c4))) 27 (0, 0))) (sep (blk F (.cells (rowC (firmV (dset s.fs j (flipAt bs k, (s.fs j).2)))) 3 (0, 0))) (sep (fokr (vset V j (.slice (some ⟨g, 0, none⟩) l c4)) (dset s.fs j (flipAt bs k, (s.fs j).2))) A))))
            rw [firm_same]
            have h12 := h11.p1.drop
            simpa only [sep_comm, sep_lcomm, sep_assoc] using h12
          have HFIN := Lib.hid hfin
          have HW5 := Lib.hid hw5
          have HW6 := Lib.hid hw6
          have hilI : (i : Int) < (l : Int) := by omega
          clear hset hset2 h3 h4 h8 h9 hrn hfin hw5 hw6 hgc hx hm hfl hfll HSRC HN0 c1 hcj hbl
          go_upto_region 6 with (fail)
          have hfv2 : bits .xor .u8 (x.toNat : Int) ((2 : Int) ^ m % 256) = ((flipB x r).toNat : Int) := hfv
          rw [hfv2, ← HW5.out]
          clear hfv hfv2 hgc' hgf
          go_wp2_with fail
          go_ret
          rw [HE.out, ← HW6.out]
          exact ⟨rfl, HFIN.out⟩
end Go.Proofs.Ytbniekblkbdidaa
