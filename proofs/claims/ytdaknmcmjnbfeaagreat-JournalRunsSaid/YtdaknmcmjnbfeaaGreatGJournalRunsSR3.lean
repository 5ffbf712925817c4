/- The reference's disk: Append, Sync. -/
import Derived.Test.YtdaknmcmjnbfeaaGreatGJournalRunsSR2
namespace Go.Proofs.YtdaknmcmjnbfeaaGreat
open Go.RowKit PA
set_option maxRecDepth 100000 in
set_option maxHeartbeats 4000000 in
theorem rdappend_spec {W w : World} {A : Assn} {I : Mem} (p : Nat) (s : DSt) (n : Int) (v : Value) (x : List UInt8) (h : Sat W w (sep (isRD p s) (sep (kn I) A))) (hv : rBytes.rel I [v] x) (hx : x.length ≤ 1000000) :
    Calls Tryz.prog 37 #[.pointer (some ⟨p, 0, none⟩), .int .i64 n, v] w fun e w' => e = .returned (.int .i64 (appendD s n x).1) ∧ Sat W w' (sep (isRD p (appendD s n x).2) (sep (kn I) A)) := by
  obtain ⟨va, vc, rfl, -⟩ := slice_f hv
  obtain ⟨xl, hxl⟩ : ∃ xl, xl = x.length := ⟨_, rfl⟩
  rw [← hxl] at hv hx ⊢
  have H := Lib.hid h
  by_cases hn : 0 ≤ n ∧ n < 64
  · have hn' : ¬ (n < 0 ∨ 64 ≤ n) := by omega
    obtain ⟨B, F, V, hok, h0⟩ := isRD_open h
    have c3 : w.cell? ⟨p, 3, none⟩ = some (.bool s.off) := h0.cell 3
    have g1 : ¬ n < 0 := by omega
    have g2 : ¬ n > 63 := by omega
    cases hoff : s.off with
    | true =>
      have e : appendD s n x = (19, s) := by rw [appendD, if_neg hn', hoff]; rfl
      rw [e]
      rw [hoff] at c3
      clear h h0 hn' hn hoff e hok hxl hv
      go_enter Tryz.func37, Tryz.ntmps37
      go_wp2_with fail
      go_ret
      exact ⟨rfl, H.out⟩
    | false =>
      obtain ⟨j, rfl⟩ : ∃ j : Nat, n = (j : Int) := ⟨n.toNat, by omega⟩
      have hj : j < 64 := by omega
      rw [hoff] at c3
      have hus := rdused_spec p s h.drew
      have hS0 : w.drew.cell? ⟨p, 0, none⟩ = some (.int .i64 (s.room : Nat)) := h0.cell 0
      obtain ⟨u, hu⟩ : ∃ u, u = s.used := ⟨_, rfl⟩
      obtain ⟨rm, hrm⟩ : ∃ rm, rm = s.room := ⟨_, rfl⟩
      rw [← hu] at hus
      rw [← hrm] at hS0
      have hfit := hok.fit
      have hroom := hok.room
      rw [← hu, ← hrm] at hfit
      rw [← hrm] at hroom
      obtain ⟨t, ht⟩ : ∃ t, t = u + xl := ⟨_, rfl⟩
      have htI : (u : Int) + (xl : Int) = (t : Int) := by omega
      have hwt : IntKind.i64.wrap (t : Int) = (t : Int) := IntWalk.i64_in _ (by omega)
      have HT := Lib.hid ht
      have HUS := Lib.hid hus
      have HU := Lib.hid (And.intro hu (And.intro hrm (And.intro hxl hoff)))
      have HV := Lib.hid hv
      have HOK := Lib.hid hok
      clear h h0 hn' hoff hok hxl hv hus hu hrm ht
      go_enter Tryz.func37, Tryz.ntmps37
      go_wp2_with fail
      refine wp_region_canon rfl (fun w' => w'.cell? ⟨p, 0, none⟩ = some (.int .i64 (rm : Nat))) [(0, .p), (2, .p), (3, .p), (5, .p), (6, .p), (7, .p), (8, .s), (1, .e true), (4, .p), (9, .p)] (by kernel_rfl) ?_
      (repeat (first | (refine C_p (v := ?_) rfl rfl (fun w' => ?_) ?_; rotate_left; (go_simp; with_reducible rfl); simp only [Act.put, List.setIfInBounds_toArray, List.set_cons_zero, List.set_cons_succ]) | (refine C_s (v := ?_) rfl rfl hS0 (fun w' hS => ?_) ?_; rotate_left; ((try dsimp only at hS); go_simp; with_reducible rfl); simp only [Act.put, List.setIfInBounds_toArray, List.set_cons_zero, List.set_cons_succ]) | (refine C_t (v := ?_) rfl rfl ?_ ?_; rotate_left; (go_simp; with_reducible rfl); simp only [Act.put, List.setIfInBounds_toArray, List.set_cons_zero, List.set_cons_succ]) | (refine C_po rfl rfl ?_; simp only [Act.put, List.setIfInBounds_toArray, List.set_cons_zero, List.set_cons_succ]) | (refine C_so rfl rfl hS0 ?_; simp only [Act.put, List.setIfInBounds_toArray, List.set_cons_zero, List.set_cons_succ]) | (refine C_to rfl rfl ?_; simp only [Act.put, List.setIfInBounds_toArray, List.set_cons_zero, List.set_cons_succ])))
      (refine C_e rfl rfl (fun K hK => ?_); go_simp)
      refine HUS.out.mono ?_
      rintro e w2 ⟨rfl, h1⟩
      clear HUS c3 hS0
      have hS0 : w2.cell? ⟨p, 0, none⟩ = some (.int .i64 (rm : Nat)) := by
        obtain ⟨B, F, V, -, h3⟩ := isRD_open h1
        rw [HU.out.2.1]
        exact h3.cell 0
      (refine hK _ _ (fun _ => hS0) ?_; clear hK K; (try simp only [Act.put, List.setIfInBounds_toArray, List.set_cons_zero, List.set_cons_succ]))
      (repeat (first | (refine C_p (v := ?_) rfl rfl (fun w' => ?_) ?_; rotate_left; (go_simp; with_reducible rfl); simp only [Act.put, List.setIfInBounds_toArray, List.set_cons_zero, List.set_cons_succ]) | (refine C_s (v := ?_) rfl rfl hS0 (fun w' hS => ?_) ?_; rotate_left; ((try dsimp only at hS); go_simp; with_reducible rfl); simp only [Act.put, List.setIfInBounds_toArray, List.set_cons_zero, List.set_cons_succ]) | (refine C_t (v := ?_) rfl rfl ?_ ?_; rotate_left; (go_simp; with_reducible rfl); simp only [Act.put, List.setIfInBounds_toArray, List.set_cons_zero, List.set_cons_succ]) | (refine C_po rfl rfl ?_; simp only [Act.put, List.setIfInBounds_toArray, List.set_cons_zero, List.set_cons_succ]) | (refine C_so rfl rfl hS0 ?_; simp only [Act.put, List.setIfInBounds_toArray, List.set_cons_zero, List.set_cons_succ]) | (refine C_to rfl rfl ?_; simp only [Act.put, List.setIfInBounds_toArray, List.set_cons_zero, List.set_cons_succ])))
      refine C_nil ?_
      have H1 := Lib.hid h1
      clear h1 hS0
      by_cases hfull : rm < u + xl
      · have g3 : (t : Int) > (rm : Int) := by omega
        have e : appendD s (j : Int) x = (18, s) := by
          have := HU.out
          rw [appendD, if_neg (by omega), this.2.2.2, ← this.1, ← this.2.1, ← this.2.2.1]
          simp only [Bool.false_eq_true, if_false]
          rw [if_pos hfull]
        have HE := Lib.hid e
        clear e hfull
        go_wp2_with fail
        go_ret
        rw [HE.out]
        exact ⟨rfl, H1.out⟩
      · have g3 : ¬ (t : Int) > (rm : Int) := by omega
        have e : appendD s (j : Int) x = (if (s.app j x).step.1 then 0 else 19, (s.app j x).step.2) := by
          have := HU.out
          rw [appendD, if_neg (by omega), this.2.2.2, ← this.1, ← this.2.1, ← this.2.2.1]
          simp only [Bool.false_eq_true, if_false]
          rw [if_neg hfull]
          rfl
        have HE := Lib.hid e
        obtain ⟨B, F, V, -, h2⟩ := isRD_open H1.out
        have c1 : w2.cell? ⟨p, 1, none⟩ = some (.slice (some ⟨B, 0, none⟩) 64 64) := h2.cell 1
        obtain ⟨ba, bc, hVj, hsw, h3⟩ := fokr_at h2.p3 hj
        obtain ⟨bs, hbs⟩ : ∃ bs, bs = (s.fs j).1 := ⟨_, rfl⟩
        rw [← hbs] at hVj hsw h3
        obtain ⟨l, hl⟩ : ∃ l, l = bs.length := ⟨_, rfl⟩
        rw [← hl] at hVj hsw h3
        have hll : l ≤ 16777216 := by rw [hl, hbs]; exact file_le HOK.out j
        have hcj : w2.cell? ⟨B, j, none⟩ = some (.slice ba l bc) := by rw [h2.p1.cell j, rowC_get _ hj, hVj]
        obtain ⟨J, hJ, hr, h4⟩ := (show Sat W w2 (sep (rBytes.is [.slice ba l bc] bs) (sep (kn I) (sep (fokr V s.fs) (sep (blk p (.cells (rdC B F s) 50 (0, 0))) (sep (blk B (.cells (rowC V) 39 (0, 0))) (sep (blk F (.cells (rowC (firmV s.fs)) 3 (0, 0))) A)))))) by simpa only [sep_comm, sep_lcomm, sep_assoc] using h3).learn
        obtain ⟨s1, s2, s3⟩ := rel_src' hr
        have hsrc := s3 w2 h4.ext
        have hn0 : ba = none → l = 0 := fun e => by have := s2.2.2 e; have := s2.1; omega
        have h5 := h4.osl_nil 5 1
        have HSRC := Lib.hid hsrc
        have HN0 := Lib.hid hn0
        have HB := Lib.hid (And.intro hbs hl)
        have HJ := Lib.hid hJ
        clear e hfull h2 hVj hsw h3 hr h4 s1 s2 s3 hsrc hn0 hbs hl hJ H1 H
        go_wp2_with (at_builtin; refine wpl_append_osl rfl (.tmp 29) (.tmp 36) 39 rfl 5 1 1 (.int .u8 0) Tryz.underlying39 infoU8d rfl rfl h5 rfl (bs.map bv) (by rw [List.length_map, HB.out.2]; simp) HN0.out HSRC.out (bv_one bs) (by omega) (by unfold maxLen; omega) ?_)
        intro a4 c4 w4 h6
        obtain ⟨t1, t2, t3⟩ := rel_src' HV.out
        have hsrc := t3 w4.drew (fun b o hb => h6.drew.p1.ext b o (HJ.out _ _ hb))
        have hn0 : va = none → xl = 0 := fun e => by have := t2.2.2 e; have := t2.1; omega
        have hS0 : w4.drew.cell? ⟨p, 1, none⟩ = some (.slice (some ⟨B, 0, none⟩) 64 64) := h6.drew.p3.cell 1
        have H6 := Lib.hid h6.drew
        have HSRC2 := Lib.hid hsrc
        have HN2 := Lib.hid hn0
        clear h5 h6 HSRC HN0 hsrc hn0 t1 t2 t3 c1 hcj
        go_wp2_with fail
        refine wp_region_canon rfl (fun w' => w'.cell? ⟨p, 1, none⟩ = some (.slice (some ⟨B, 0, none⟩) 64 64)) [(0, .p), (1, .p), (2, .p), (3, .s), (4, .p), (5, .p), (6, .p), (7, .e true), (8, .p), (9, .e false)] (by kernel_rfl) ?_
        (repeat (first | (refine C_p (v := ?_) rfl rfl (fun w' => ?_) ?_; rotate_left; (go_simp; with_reducible rfl); simp only [Act.put, List.setIfInBounds_toArray, List.set_cons_zero, List.set_cons_succ]) | (refine C_s (v := ?_) rfl rfl hS0 (fun w' hS => ?_) ?_; rotate_left; ((try dsimp only at hS); go_simp; with_reducible rfl); simp only [Act.put, List.setIfInBounds_toArray, List.set_cons_zero, List.set_cons_succ]) | (refine C_t (v := ?_) rfl rfl ?_ ?_; rotate_left; (go_simp; with_reducible rfl); simp only [Act.put, List.setIfInBounds_toArray, List.set_cons_zero, List.set_cons_succ]) | (refine C_po rfl rfl ?_; simp only [Act.put, List.setIfInBounds_toArray, List.set_cons_zero, List.set_cons_succ]) | (refine C_so rfl rfl hS0 ?_; simp only [Act.put, List.setIfInBounds_toArray, List.set_cons_zero, List.set_cons_succ]) | (refine C_to rfl rfl ?_; simp only [Act.put, List.setIfInBounds_toArray, List.set_cons_zero, List.set_cons_succ])))
        refine C_e rfl rfl (fun K hK => ?_)
        refine wp_append_osl (.tmp 43) (.tmp 44) 39 rfl 5 1 1 (.int .u8 0) Tryz.underlying39 infoU8d rfl rfl H6.out rfl (x.map bv) (by rw [List.length_map, HU.out.2.2.1]; simp) HN2.out HSRC2.out (bv_one x) (by omega) (by unfold maxLen; omega) ?_
        intro a5 c5 w5 h7
        rw [← List.map_append] at h7
        have hS0 : w5.cell? ⟨p, 1, none⟩ = some (.slice (some ⟨B, 0, none⟩) 64 64) := h7.p3.cell 1
        have hcz := h7.p4.unfrozen j
        have hcj : w5.cell? ⟨B, j, none⟩ = some (V j) := by rw [h7.p4.cell j, rowC_get _ hj]
        obtain ⟨KM, hJK, hrn, h8⟩ := (show Sat W w5 (sep (rBytes.is [.slice a5 (l + xl) c5] (bs ++ x)) (sep (kn J) (sep (fokr V s.fs) (sep (blk p (.cells (rdC B F s) 50 (0, 0))) (sep (blk B (.cells (rowC V) 39 (0, 0))) (sep (blk F (.cells (rowC (firmV s.fs)) 3 (0, 0))) A)))))) from h7.bytes_of_osl.2).learn
        have h9 := h8.p3.setCell j (.slice a5 (l + xl) c5)
        rw [rowC_set] at h9
        obtain ⟨w6, hw6⟩ : ∃ w6, w6 = w5.setCell ⟨B, j, none⟩ (.slice a5 (l + xl) c5) := ⟨_, rfl⟩
        rw [← hw6] at h9
        have hokp : (s.app j x).ok := by
          have h1 := HB.out
          refine HOK.out.put hj (by show (s.fs j).2 ≤ ((s.fs j).1 ++ x).length; rw [List.length_append]; have := HOK.out.dur j; omega) ?_
          show s.used + ((s.fs j).1 ++ x).length ≤ s.room + (s.fs j).1.length
          have h2 := HU.out
          rw [List.length_append, ← h2.1, ← h2.2.1, ← h2.2.2.1]
          have := HT.out
          omega
        have h10 : Sat W w6 (sep (isRD p (s.app j x)) (sep (kn I) A)) := by
          have e1 : (s.app j x).fs = dset s.fs j (bs ++ x, (s.fs j).2) := by rw [HB.out.1]; rfl
          refine isRD_mk (B := B) (F := F) (V := vset V j (.slice a5 (l + xl) c5)) hokp ?_
          rw [e1, firm_same]
          have h11 := fokr_put (fs := s.fs) (V := V) j (d := (s.fs j).2) hrn (show Sat W w6 (sep (fokr V s.fs) (sep (kn KM) (sep (blk p (.cells (rdC B F s) 50 (0, 0))) (sep (blk B (.cells (rowC (vset V j (.slice a5 (l + xl) c5))) 39 (0, 0))) (sep (blk F (.cells (rowC (firmV s.fs)) 3 (0, 0))) A))))) by simpa only [sep_comm, sep_lcomm, sep_assoc] using h9)
          have h12 := (h11.p1.kn_mono (Mem.le_trans HJ.out hJK)).p1
          show Sat W w6 (sep (blk p (.cells (rdC B F s) 50 (0, 0))) _)
          simpa only [sep_comm, sep_lcomm, sep_assoc] using h12
        have hst := rdstep_spec p (s.app j x) h10 HU.out.2.2.2
        have HST := Lib.hid hst
        have HW6 := Lib.hid hw6
        clear H6 HSRC2 HN2 hrn h7 h8 h9 h10 hokp hst hw6 HE
        have e : appendD s (j : Int) x = (if (s.app j x).step.1 then 0 else 19, (s.app j x).step.2) := by
          have := HU.out
          rw [appendD, if_neg (by omega), this.2.2.2, ← this.1, ← this.2.1, ← this.2.2.1]
          simp only [Bool.false_eq_true, if_false]
          rw [if_neg (by have := HT.out; omega)]
          rfl
        have HE := Lib.hid e
        clear e
        (refine hK _ _ (fun _ => hS0) ?_; clear hK K; (try simp only [Act.put, List.setIfInBounds_toArray, List.set_cons_zero, List.set_cons_succ]))
        (repeat (first | (refine C_p (v := ?_) rfl rfl (fun w' => ?_) ?_; rotate_left; (go_simp; with_reducible rfl); simp only [Act.put, List.setIfInBounds_toArray, List.set_cons_zero, List.set_cons_succ]) | (refine C_s (v := ?_) rfl rfl hS0 (fun w' hS => ?_) ?_; rotate_left; ((try dsimp only at hS); go_simp; with_reducible rfl); simp only [Act.put, List.setIfInBounds_toArray, List.set_cons_zero, List.set_cons_succ]) | (refine C_t (v := ?_) rfl rfl ?_ ?_; rotate_left; (go_simp; with_reducible rfl); simp only [Act.put, List.setIfInBounds_toArray, List.set_cons_zero, List.set_cons_succ]) | (refine C_po rfl rfl ?_; simp only [Act.put, List.setIfInBounds_toArray, List.set_cons_zero, List.set_cons_succ]) | (refine C_so rfl rfl hS0 ?_; simp only [Act.put, List.setIfInBounds_toArray, List.set_cons_zero, List.set_cons_succ]) | (refine C_to rfl rfl ?_; simp only [Act.put, List.setIfInBounds_toArray, List.set_cons_zero, List.set_cons_succ])))
        (refine C_e rfl rfl (fun K hK => ?_); go_simp)
        rw [← HW6.out]
        clear hS0 hcj hcz
        (refine hK _ _ (fun h => by cases h) ?_; clear hK K; (try simp only [Act.put, List.setIfInBounds_toArray, List.set_cons_zero, List.set_cons_succ]))
        refine C_nil ?_
        go_wp2_with fail
        refine HST.out.mono ?_
        rintro e w7 ⟨rfl, h13⟩
        have H13 := Lib.hid h13
        obtain ⟨tb, htb⟩ : ∃ tb, tb = (s.app j x).step.1 := ⟨_, rfl⟩
        rw [← htb]
        have HTB := Lib.hid htb
        clear HST h13 htb
        cases tb with
        | true =>
          go_wp2_with fail
          go_ret
          rw [HE.out, ← HTB.out]
          exact ⟨rfl, H13.out⟩
        | false =>
          go_wp2_with fail
          go_ret
          rw [HE.out, ← HTB.out]
          exact ⟨rfl, H13.out⟩
  · have hn' : n < 0 ∨ 64 ≤ n := by omega
    have e : appendD s n x = (1, s) := by rw [appendD, if_pos hn']
    rw [e]
    clear h e hn hxl hv
    rcases Int.lt_or_le n 0 with g1 | g1
    · go_enter Tryz.func37, Tryz.ntmps37
      go_wp2_with fail
      go_ret
      exact ⟨rfl, H.out⟩
    · have g2 : ¬ n < 0 := by omega
      have g3 : n > 63 := by omega
      go_enter Tryz.func37, Tryz.ntmps37
      go_wp2_with fail
      go_ret
      exact ⟨rfl, H.out⟩
end Go.Proofs.YtdaknmcmjnbfeaaGreat
