/- The reference's disk: Crash. -/
import Derived.Test.YtdaknmcmjnbfeaaGreatGJournalRunsSR7
namespace Go.Proofs.YtdaknmcmjnbfeaaGreat
open Go.RowKit PA
theorem fokrh_at {W w : World} {A : Assn} {V : Nat → Value} {fs : Nat → File} {o : Hole} (h : Sat W w (sep (fokrh V fs o) A)) {j : Nat} (hj : j < 64) (ho : ∀ x, o = some x → j ≠ x.1) : ∃ a c, V j = .slice a (fs j).1.length c ∧ Swf a (fs j).1.length c ∧ Sat W w (sep (rBytes.is [.slice a (fs j).1.length c] (fs j).1) (sep (fokrh V fs o) A)) := by
  obtain ⟨a, c, e, hw, -⟩ := bytes_rel.1 (h.pers_heap.1 j hj ho)
  refine ⟨a, c, e, hw, h.dup.wk ?_⟩
  rintro I m ⟨x, y, h1, h2, ⟨h3, h4⟩, h5⟩
  refine ⟨x, y, h1, h2, ⟨h3, ?_⟩, h5⟩
  have := h4.1 j hj ho
  rw [e] at this
  exact this
theorem fokrh_cell {W w : World} {A : Assn} {V : Nat → Value} {fs : Nat → File} {o : Hole} (h : Sat W w (sep (fokrh V fs o) A)) {j : Nat} (hj : j < 64) : ∃ a c, V j = .slice a (fs j).1.length c := by
  by_cases ho : ∀ x, o = some x → j ≠ x.1
  · obtain ⟨a, c, e, -⟩ := fokrh_at h hj ho
    exact ⟨a, c, e⟩
  · obtain ⟨x, hx, rfl⟩ : ∃ x, o = some x ∧ j = x.1 := by
      apply Classical.byContradiction
      intro hn
      exact ho fun x hx e => hn ⟨x, hx, e⟩
    exact ⟨_, _, h.pers_heap.2 x hx⟩
set_option maxRecDepth 100000 in
set_option maxHeartbeats 8000000 in
theorem rdcrash_spec {W w : World} {A : Assn} {I : Mem} (p : Nat) (s : DSt) (ka : Option Addr) (nk kc : Nat) (keep : List Int) (flip : Int) (h : Sat W w (sep (isRD p s) (sep (kn I) A))) (hv : (rInt.slice 1).rel I [.slice ka nk kc] keep) (hflip : I64' flip) :
    Calls Tryz.prog 12 #[.pointer (some ⟨p, 0, none⟩), .slice ka nk kc, .int .i64 flip] w fun e w' => e = .returned (.tuple #[]) ∧ Sat W w' (sep (isRD p (crashD s keep flip)) (sep (kn I) A)) := by
  have hfi := rdfiles_spec p s h
  have HFI := Lib.hid hfi
  have HFL := Lib.hid hflip
  obtain ⟨ka', kc', e, hksw, hkc⟩ := ints_rel.1 hv
  simp only [Value.slice.injEq] at e
  obtain ⟨rfl, hnk, rfl⟩ := e
  obtain ⟨m, hm⟩ : ∃ m, m = (filesD s.fs).length := ⟨_, rfl⟩
  have hm64 : m ≤ 64 := by rw [hm]; exact filesD_len _
  rw [← hm] at HFI
  have HM := Lib.hid hm
  have HKC := Lib.hid (And.intro hnk (And.intro hksw hkc))
  have hok := isRD_ok h
  have HOK := Lib.hid hok
  clear hfi hflip hv hm hnk hksw hkc h hok
  go_enter Tryz.func12, Tryz.ntmps12
  go_wp2_with fail
  refine HFI.out.mono ?_
  rintro e w1 ⟨fa, fc, rfl, h1⟩
  clear HFI
  obtain ⟨B, F, V0, -, h2⟩ := isRD_open h1.p1
  obtain ⟨KM, hIK, hfc, h3⟩ := (show Sat W w1 (sep (rsl fa ((filesD s.fs).map fun j : Nat => iv j)) (sep (kn I) (sep (blk p (.cells (rdC B F s) 50 (0, 0))) (sep (blk B (.cells (rowC V0) 39 (0, 0))) (sep (blk F (.cells (rowC (firmV s.fs)) 3 (0, 0))) (sep (fokr V0 s.fs) A)))))) by
    have := (show Sat W w1 (sep (osl 3 1 fa m fc ((filesD s.fs).map fun j : Nat => iv j)) (sep (kn I) (sep (blk p (.cells (rdC B F s) 50 (0, 0))) (sep (blk B (.cells (rowC V0) 39 (0, 0))) (sep (blk F (.cells (rowC (firmV s.fs)) 3 (0, 0))) (sep (fokr V0 s.fs) A)))))) by simpa only [sep_comm, sep_lcomm, sep_assoc] using h2).osl_settle
    exact this).learn
  have h4 : CrR W A p B F s keep (tgt s keep flip) KM 0 w1 := by
    refine ⟨V0, fun _ => 0, 0, ?_⟩
    have e0 : holeAt (tgt s keep flip) (filesD s.fs) 0 (fun _ => 0) 0 = none := by unfold holeAt; cases tgt s keep flip <;> simp
    rw [e0]
    show Sat W w1 (sep (blk p (.cells (rdC B F s) 50 (0, 0))) (sep (blk B (.cells (rowC V0) 39 (0, 0))) (sep (blk F (.cells (rowC (firmV s.fs)) 3 (0, 0))) (sep (fokrh V0 s.fs none) (sep emp (sep (kn KM) A))))))
    rw [emp_sep]
    have h5 : Sat W w1 (sep (fokr V0 s.fs) (sep (kn KM) (sep (blk p (.cells (rdC B F s) 50 (0, 0))) (sep (blk B (.cells (rowC V0) 39 (0, 0))) (sep (blk F (.cells (rowC (firmV s.fs)) 3 (0, 0))) A))))) := by simpa only [sep_comm, sep_lcomm, sep_assoc] using h3
    have h6 : Sat W w1 (sep (fokrh V0 s.fs none) (sep (kn KM) (sep (blk p (.cells (rdC B F s) 50 (0, 0))) (sep (blk B (.cells (rowC V0) 39 (0, 0))) (sep (blk F (.cells (rowC (firmV s.fs)) 3 (0, 0))) A))))) := by
      refine h5.wk ?_
      rintro J mm ⟨x, y, d1, rfl, ⟨rfl, hf⟩, hA⟩
      exact ⟨Mem.no, y, d1, rfl, ⟨rfl, fun j hj _ => hf j hj, fun x hx => by cases hx⟩, hA⟩
    simpa only [sep_comm, sep_lcomm, sep_assoc] using h6
  have HFC := Lib.hid hfc
  have HIK := Lib.hid hIK
  have H4 := Lib.hid h4
  clear h1 h2 h3 hfc hIK h4
  go_upto_block 0 with (fail)
  go_cut [7] (fun tv wx => tv = .int .i64 ((looseD s keep).length : Nat) ∧ Hid (CrR W A p B F s keep (tgt s keep flip) KM m wx))
  case first =>
    go_wp2_with fail
    go_loopw [7, 8] (fun tv iv' wr => ∃ i n : Nat, i ≤ m ∧ iv' = .int .i64 (i : Nat) ∧ tv = .int .i64 (n : Nat) ∧ Hid (n = (looseN s.fs (filesD s.fs) keep i).length) ∧ Hid (CrR W A p B F s keep (tgt s keep flip) KM i wr)) (fun _ iv' _ => m - (intOf iv').toNat)
    case atStart => exact ⟨0, 0, by omega, rfl, rfl, Lib.hid rfl, H4⟩
    case round =>
      clear H4
      obtain ⟨i, cn, hi, rfl, rfl, HCN, HS⟩ := hrel
      by_cases him : i < m
      ·
        /-DEV-/
        obtain ⟨V, G, C, hS⟩ := HS.out
        obtain ⟨n, hn⟩ : ∃ n, (filesD s.fs)[i]? = some n := ⟨_, List.getElem?_eq_getElem (by rw [← HM.out]; exact him)⟩
        have hnm := mem_filesD.1 (List.mem_of_getElem? hn)
        obtain ⟨fb, fo, rfl, hfcell⟩ := cells_ext HFC.out (fun e => by simp at e; rw [e] at hn; simp at hn)
        have hc1 : wr.cell? ⟨fb, fo + i, none⟩ = some (.int .i64 (n : Nat)) := hfcell wr hS.p5.ext i _ (by rw [List.getElem?_map, hn]; rfl)
        have hcn : cutN s.fs (filesD s.fs) keep i n = s.fs n := cutN_notin fun j hj e => by
          obtain ⟨a1, a2⟩ := List.getElem?_eq_some_iff.1 hn
          obtain ⟨b1, b2⟩ := List.getElem?_eq_some_iff.1 e
          have := (List.getElem_inj (filesD_nodup s.fs)).1 (a2.trans b2.symm)
          omega
        have hno : ∀ x, holeAt (tgt s keep flip) (filesD s.fs) i G C = some x → n ≠ x.1 := fun x hx e => not_mem_take (filesD_nodup s.fs) hn (by rw [e]; exact holeAt_file hx)
        obtain ⟨a0, c0, hVn, hsw, h5⟩ := fokrh_at hS.p3 hnm.1 hno
        rw [hcn] at hVn hsw h5
        obtain ⟨J, hKJ, hr, h6⟩ := (show Sat W wr (sep (rBytes.is [.slice a0 (s.fs n).1.length c0] (s.fs n).1) (sep (kn KM) (sep (blk p (.cells (rdC B F s) 50 (0, 0))) (sep (blk B (.cells (rowC V) 39 (0, 0))) (sep (blk F (.cells (rowC (firmV s.fs)) 3 (0, 0))) (sep (fokrh V (cutN s.fs (filesD s.fs) keep i) (holeAt (tgt s keep flip) (filesD s.fs) i G C)) (sep (holeA (cutN s.fs (filesD s.fs) keep i) (holeAt (tgt s keep flip) (filesD s.fs) i G C)) A))))))) by simpa only [sep_comm, sep_lcomm, sep_assoc] using h5).learn
        obtain ⟨bs, hbs⟩ : ∃ bs, bs = (s.fs n).1 := ⟨_, rfl⟩
        obtain ⟨d, hd⟩ : ∃ d, d = (s.fs n).2 := ⟨_, rfl⟩
        obtain ⟨l, hl⟩ : ∃ l, l = bs.length := ⟨_, rfl⟩
        obtain ⟨k, hk⟩ : ∃ k, k = keptD (s.fs n) keep i := ⟨_, rfl⟩
        have hdl : d + k ≤ l := by
          have h1 := keptD_le (s.fs n) keep i
          have h2 := HOK.out.dur n
          rw [hl, hk, hbs, hd]; omega
        have hll : l ≤ 16777216 := by rw [hl, hbs]; exact file_le HOK.out n
        rw [← hbs] at hVn hr hsw
        rw [← hl] at hVn hr hsw
        have hcnb : cn ≤ 1073741824 := by rw [HCN.out]; exact looseN_len HOK.out _ _ _ (by omega)
        have hn64 : (n : Int) < 64 := by have := hnm.1; omega
        have hlc : l ≤ c0 ∧ c0 ≤ 9223372036854775807 := ⟨hsw.1, hsw.2.1⟩
        obtain ⟨RR, hRR⟩ : ∃ RR, RR = sep (fokrh V (cutN s.fs (filesD s.fs) keep i) (holeAt (tgt s keep flip) (filesD s.fs) i G C)) (sep (holeA (cutN s.fs (filesD s.fs) keep i) (holeAt (tgt s keep flip) (filesD s.fs) i G C)) A) := ⟨_, rfl⟩
        have h7 : Sat W wr (sep (kn J) (sep (blk p (.cells (rdC B F s) 50 (0, 0))) (sep (blk B (.cells (rowC V) 39 (0, 0))) (sep (blk F (.cells (rowC (firmV s.fs)) 3 (0, 0))) RR)))) := by rw [hRR]; exact h6
        have H7 := Lib.hid h7
        have HRR := Lib.hid hRR
        have HN := Lib.hid (And.intro hn (And.intro hbs (And.intro hd (And.intro hl (And.intro hk (And.intro hnm.1 hVn))))))
        have HR := Lib.hid hr
        have HKJ := Lib.hid hKJ
        have himI : (i : Int) < (m : Int) := by omega
        clear HS hS hn hnm hfcell hcn hno hVn hsw h5 h6 h7 hRR hbs hd hl hk hr hKJ him
        have cells : ∀ wx, Sat W wx (sep (kn J) (sep (blk p (.cells (rdC B F s) 50 (0, 0))) (sep (blk B (.cells (rowC V) 39 (0, 0))) (sep (blk F (.cells (rowC (firmV s.fs)) 3 (0, 0))) RR)))) → wx.cell? ⟨p, 1, none⟩ = some (.slice (some ⟨B, 0, none⟩) 64 64) ∧ wx.cell? ⟨p, 2, none⟩ = some (.slice (some ⟨F, 0, none⟩) 64 64) ∧ wx.cell? ⟨B, n, none⟩ = some (.slice a0 l c0) ∧ wx.cell? ⟨F, n, none⟩ = some (.int .i64 (d : Nat)) := fun wx hx =>
          ⟨hx.p1.cell 1, hx.p1.cell 2, by rw [hx.p2.cell n, rowC_get _ HN.out.2.2.2.2.2.1, HN.out.2.2.2.2.2.2], by rw [hx.p3.cell n, rowC_get _ HN.out.2.2.2.2.2.1, HN.out.2.2.1]; rfl⟩
        have CELLS := Lib.hid cells
        clear cells
        go_upto_if 32 with (fail)
        clear hc1
        go_cut [10] (fun kv wx => kv = .int .i64 (k : Nat) ∧ Hid (Sat W wx (sep (kn J) (sep (blk p (.cells (rdC B F s) 50 (0, 0))) (sep (blk B (.cells (rowC V) 39 (0, 0))) (sep (blk F (.cells (rowC (firmV s.fs)) 3 (0, 0))) RR))))))
        case first =>
          by_cases hik : i < nk
          · have hikb : decide ((i : Int) < (nk : Int)) = true := by simp; omega
            have hikl : i < keep.length := by rw [← HKC.out.1]; exact hik
            obtain ⟨kb, ko, hka, hkcell⟩ := cells_ext HKC.out.2.2 (fun e => by simp at e; rw [e] at hikl; simp at hikl)
            obtain ⟨x, hx⟩ : ∃ x, x = keep[i] := ⟨_, rfl⟩
            have hext : Ext I wr.drew := fun b o hb => H7.out.ext b o (HKJ.out _ _ (HIK.out _ _ hb))
            have hc1 : wr.drew.cell? ⟨kb, ko + i, none⟩ = some (.int .i64 x) := hkcell _ hext i _ (by rw [List.getElem?_map, List.getElem?_eq_getElem hikl, hx]; rfl)
            obtain ⟨d1, d2, d3, d4⟩ := CELLS.out _ H7.out.drew
            subst hka
            have HX := Lib.hid hx
            have hS0 : True := trivial
            clear hkcell hext hx
            go_upto_region 8 with (fail)
            refine wp_region_canon rfl (fun _ => True) [(0, .p), (1, .p), (2, .p), (3, .t), (4, .p), (5, .p), (6, .p), (7, .t), (8, .p), (9, .p), (10, .t), (11, .p), (12, .p), (13, .p), (14, .p), (15, .t), (16, .p), (17, .p), (18, .t), (19, .p), (20, .p), (21, .p), (22, .p)] (by kernel_rfl) ?_
            (repeat (first | (refine C_p (v := ?_) rfl rfl (fun w' => ?_) ?_; rotate_left; (go_simp; with_reducible rfl); simp only [Act.put, List.setIfInBounds_toArray, List.set_cons_zero, List.set_cons_succ]) | (refine C_s (v := ?_) rfl rfl hS0 (fun w' hS => ?_) ?_; rotate_left; ((try dsimp only at hS); go_simp; with_reducible rfl); simp only [Act.put, List.setIfInBounds_toArray, List.set_cons_zero, List.set_cons_succ]) | (refine C_t (v := ?_) rfl rfl ?_ ?_; rotate_left; (go_simp; with_reducible rfl); simp only [Act.put, List.setIfInBounds_toArray, List.set_cons_zero, List.set_cons_succ]) | (refine C_po rfl rfl ?_; simp only [Act.put, List.setIfInBounds_toArray, List.set_cons_zero, List.set_cons_succ]) | (refine C_so rfl rfl hS0 ?_; simp only [Act.put, List.setIfInBounds_toArray, List.set_cons_zero, List.set_cons_succ]) | (refine C_to rfl rfl ?_; simp only [Act.put, List.setIfInBounds_toArray, List.set_cons_zero, List.set_cons_succ])))
            refine C_nil ?_
            have hkx : max 0 (min x (IntKind.i64.wrap ((l : Int) - (d : Int)))) = (k : Int) := by
              rw [IntWalk.i64_in _ (by omega)]
              have e : k = keptD (s.fs n) keep i := HN.out.2.2.2.2.1
              have hld := HN.out
              rw [keptD, List.getElem?_eq_getElem hikl, ← HX.out, ← hld.2.1, ← hld.2.2.1, ← hld.2.2.2.1] at e
              dsimp only at e
              omega
            have HKX := Lib.hid hkx
            clear hkx hc1 d1 d2 d3 d4
            go_wp2
            go_meet
            exact ⟨by rw [HKX.out], Lib.hid H7.out.drew⟩
          · have hikb : decide ((i : Int) < (nk : Int)) = false := by simp; omega
            have hk0 : k = 0 := by
              have e : k = keptD (s.fs n) keep i := HN.out.2.2.2.2.1
              rw [keptD, List.getElem?_eq_none (by rw [← HKC.out.1]; omega)] at e
              exact e
            subst hk0
            go_wp2_with fail
            go_meet
            exact ⟨rfl, H7⟩
        case rest =>
          obtain ⟨rfl, HS⟩ := hcut
          clear H7 HKC
          obtain ⟨d1, d2, d3, d4⟩ := CELLS.out _ HS.out.drew
          obtain ⟨e, he⟩ : ∃ e, e = d + k := ⟨_, rfl⟩
          have heI : (d : Int) + (k : Int) = (e : Int) := by omega
          have hwe : IntKind.i64.wrap (e : Int) = (e : Int) := IntWalk.i64_in _ (by omega)
          have hec : (e : Int) ≤ (c0 : Int) := by omega
          have he0 : (0 : Int) ≤ (e : Int) := by omega
          obtain ⟨hr1, hr2, hr3⟩ := rel_take2 e (by omega) HR.out
          obtain ⟨bs2, hbs2⟩ : ∃ bs2, bs2 = bs.take e := ⟨_, rfl⟩
          rw [← hbs2] at hr1 hr3
          have hsrc := hr3 wc.drew HS.out.drew.ext
          have hn0 : a0 = none → e = 0 := fun e => by have := hr2.2.2 e; have := hr2.1; omega
          have H8 := Lib.hid (HS.out.drew.osl_nil 5 1)
          have HSRC := Lib.hid hsrc
          have HN0 := Lib.hid hn0
          have HE := Lib.hid (And.intro he (And.intro hr1 hbs2))
          have hS0 : wc.drew.cell? ⟨p, 1, none⟩ = some (.slice (some ⟨B, 0, none⟩) 64 64) := d1
          clear hr1 hr2 hr3 hsrc hn0 he hbs2 HS
          go_wp2_with fail
          refine wp_region_canon rfl (fun w' => w'.cell? ⟨p, 1, none⟩ = some (.slice (some ⟨B, 0, none⟩) 64 64)) [(0, .p), (1, .p), (2, .p), (3, .s), (4, .p), (5, .p), (6, .p), (7, .p), (8, .p), (9, .t), (10, .p), (11, .p), (12, .t), (13, .p), (14, .p), (15, .p), (16, .t), (17, .p), (18, .p), (19, .t), (20, .p), (21, .p), (22, .p), (23, .e true), (24, .p), (25, .e false)] (by kernel_rfl) ?_
          (repeat (first | (refine C_p (v := ?_) rfl rfl (fun w' => ?_) ?_; rotate_left; (go_simp; with_reducible rfl); simp only [Act.put, List.setIfInBounds_toArray, List.set_cons_zero, List.set_cons_succ]) | (refine C_s (v := ?_) rfl rfl hS0 (fun w' hS => ?_) ?_; rotate_left; ((try dsimp only at hS); go_simp; with_reducible rfl); simp only [Act.put, List.setIfInBounds_toArray, List.set_cons_zero, List.set_cons_succ]) | (refine C_t (v := ?_) rfl rfl ?_ ?_; rotate_left; (go_simp; with_reducible rfl); simp only [Act.put, List.setIfInBounds_toArray, List.set_cons_zero, List.set_cons_succ]) | (refine C_po rfl rfl ?_; simp only [Act.put, List.setIfInBounds_toArray, List.set_cons_zero, List.set_cons_succ]) | (refine C_so rfl rfl hS0 ?_; simp only [Act.put, List.setIfInBounds_toArray, List.set_cons_zero, List.set_cons_succ]) | (refine C_to rfl rfl ?_; simp only [Act.put, List.setIfInBounds_toArray, List.set_cons_zero, List.set_cons_succ])))
          refine C_e rfl rfl (fun K hK => ?_)
          refine wp_append_osl (.tmp 60) (.tmp 77) 39 rfl 5 1 1 (.int .u8 0) Tryz.underlying39 infoU8d rfl rfl H8.out rfl (bs2.map bv) (by rw [List.length_map, HE.out.2.1]; simp) HN0.out HSRC.out (bv_one bs2) (by omega) (by unfold maxLen; omega) ?_
          intro a5 c5 w5 h9
          rw [Nat.zero_add, List.nil_append] at h9
          rw [Nat.zero_add]
          obtain ⟨g, hg⟩ : ∃ g, e ≠ 0 → a5 = some ⟨g, 0, none⟩ := by
            by_cases he0 : e = 0
            · exact ⟨0, fun h => absurd he0 h⟩
            · obtain ⟨g, hg, -⟩ := h9.osl_at (fun e2 => he0 (by rw [← HE.out.2.1, ← List.length_map (f := bv), e2]; rfl))
              exact ⟨g, fun _ => hg⟩
          have hS0 : w5.cell? ⟨p, 1, none⟩ = some (.slice (some ⟨B, 0, none⟩) 64 64) := h9.p2.cell 1
          have hb2 : w5.cell? ⟨B, n, none⟩ = some (V n) := by rw [h9.p3.cell n, rowC_get _ HN.out.2.2.2.2.2.1]
          have hbz := h9.p3.unfrozen n
          have h10 := h9.p3.setCell n (.slice a5 e c5)
          rw [rowC_set] at h10
          obtain ⟨w6, hw6⟩ : ∃ w6, w6 = w5.setCell ⟨B, n, none⟩ (.slice a5 e c5) := ⟨_, rfl⟩
          rw [← hw6] at h10
          have hfin : CrR W A p B F s keep (tgt s keep flip) KM (i + 1) w6 := by
            have hn := HN.out
            rw [HRR.out] at h10
            have h11 : Sat W w6 (sep (kn J) (sep (blk p (.cells (rdC B F s) 50 (0, 0))) (sep (blk B (.cells (rowC (vset V n (.slice a5 e c5))) 39 (0, 0))) (sep (blk F (.cells (rowC (firmV s.fs)) 3 (0, 0))) (sep (osl 5 1 a5 e c5 (bs2.map bv)) (sep (fokrh V (cutN s.fs (filesD s.fs) keep i) (holeAt (tgt s keep flip) (filesD s.fs) i G C)) (sep (holeA (cutN s.fs (filesD s.fs) keep i) (holeAt (tgt s keep flip) (filesD s.fs) i G C)) A))))))) := by
              simpa only [sep_comm, sep_lcomm, sep_assoc] using h10
            have h12 := h11.kn_mono HKJ.out
            refine CrR.step HOK.out hn.1 (l := e) (bs := bs2) (C := C) (G := G) (a' := a5) (c' := c5) (V := V) HE.out.2.1.symm (by rw [HE.out.2.2, HE.out.1, hn.2.1, hn.2.2.1, hn.2.2.2.2.1]) g hg ?_
            simpa only [sep_comm, sep_lcomm, sep_assoc] using h12
          have hcnk : cn + k = (looseN s.fs (filesD s.fs) keep (i + 1)).length := by rw [loose_len HN.out.1, ← HCN.out, ← HN.out.2.2.2.2.1]
          have HFIN := Lib.hid (And.intro hfin hcnk)
          have HW6 := Lib.hid hw6
          clear h9 h10 hfin hcnk hw6 hg H8 HSRC HN0 d1 d2 d3 d4 CELLS HCN
          (refine hK _ _ (fun _ => hS0) ?_; clear hK K; (try simp only [Act.put, List.setIfInBounds_toArray, List.set_cons_zero, List.set_cons_succ]))
          (repeat (first | (refine C_p (v := ?_) rfl rfl (fun w' => ?_) ?_; rotate_left; (go_simp; with_reducible rfl); simp only [Act.put, List.setIfInBounds_toArray, List.set_cons_zero, List.set_cons_succ]) | (refine C_s (v := ?_) rfl rfl hS0 (fun w' hS => ?_) ?_; rotate_left; ((try dsimp only at hS); go_simp; with_reducible rfl); simp only [Act.put, List.setIfInBounds_toArray, List.set_cons_zero, List.set_cons_succ]) | (refine C_t (v := ?_) rfl rfl ?_ ?_; rotate_left; (go_simp; with_reducible rfl); simp only [Act.put, List.setIfInBounds_toArray, List.set_cons_zero, List.set_cons_succ]) | (refine C_po rfl rfl ?_; simp only [Act.put, List.setIfInBounds_toArray, List.set_cons_zero, List.set_cons_succ]) | (refine C_so rfl rfl hS0 ?_; simp only [Act.put, List.setIfInBounds_toArray, List.set_cons_zero, List.set_cons_succ]) | (refine C_to rfl rfl ?_; simp only [Act.put, List.setIfInBounds_toArray, List.set_cons_zero, List.set_cons_succ])))
          (refine C_e rfl rfl (fun K hK => ?_); go_simp)
          rw [← HW6.out]
          clear hS0 hb2 hbz
          (refine hK _ _ (fun h => by cases h) ?_; clear hK K; (try simp only [Act.put, List.setIfInBounds_toArray, List.set_cons_zero, List.set_cons_succ]))
          refine C_nil ?_
          go_wp2_with fail
          go_roundw
          case rel => exact ⟨i + 1, cn + k, by omega, rfl, rfl, Lib.hid HFIN.out.2, Lib.hid HFIN.out.1⟩
          case measure => simp only [intOf]; omega
        /-VED-/
      · obtain rfl : i = m := by omega
        have e : cn = (looseD s keep).length := by rw [HCN.out, HM.out]; rfl
        have HE := Lib.hid e
        clear e
        go_wp2_with fail
        go_meet
        exact ⟨by rw [HE.out], HS⟩
  case rest =>
    obtain ⟨rfl, HS⟩ := hcut
    clear H4
    obtain ⟨LN, hLN⟩ : ∃ LN, LN = (looseD s keep).length := ⟨_, rfl⟩
    have hLNb : LN ≤ 1073741824 := by rw [hLN]; exact looseN_len HOK.out _ _ _ (filesD_len _)
    rw [← hLN]
    obtain ⟨V, G, C, hS⟩ := HS.out
    rw [HM.out] at hS
    obtain ⟨o, ho⟩ : ∃ o, o = holeAt (tgt s keep flip) (filesD s.fs) (filesD s.fs).length G C := ⟨_, rfl⟩
    rw [← ho] at hS
    have h5 : CrS W A p B F V o s keep flip KM 0 wc := by
      unfold CrS
      rw [fsP_zero]
      exact hS
    obtain ⟨av0, hav0⟩ : ∃ av0, av0 = at0 s keep flip := ⟨_, rfl⟩
    have hav : -1 ≤ av0 ∧ av0 ≤ 8589934592 := by
      rw [hav0, at0]
      split
      · rename_i hc
        have h1 : 0 < (looseD s keep).length := List.length_pos_iff.2 hc.2
        have := Nat.mod_lt flip.toNat (show 0 < 8 * (looseD s keep).length by omega)
        omega
      · omega
    have H5 := Lib.hid h5
    have HLN := Lib.hid (And.intro hLN hav0)
    have HO := Lib.hid ho
    clear HS hS h5 ho hLN hav0
    obtain ⟨bb, hbb⟩ : ∃ bb, bb = decide (0 ≤ flip ∧ 0 < LN) := ⟨_, rfl⟩
    have HBB := Lib.hid hbb
    go_upto_region 13 with (fail)
    go_cut [88] (fun tv wx => tv = .bool bb ∧ Hid (CrS W A p B F V o s keep flip KM 0 wx))
    case first =>
      by_cases hf0 : 0 ≤ flip
      · have g1 : flip ≥ 0 := hf0
        by_cases hl0 : LN = 0
        · have e : bb = false := by rw [hbb]; simp; omega
          have g2 : ¬ (LN : Int) > 0 := by omega
          subst e
          have HL0 := Lib.hid hl0
          clear hbb hl0
          go_wp2_with fail
          go_meet
          exact ⟨by have := HL0.out; simp; omega, H5⟩
        · have e : bb = true := by rw [hbb]; simp; omega
          have g2 : (LN : Int) > 0 := by omega
          subst e
          have HL0 := Lib.hid hl0
          clear hbb hl0
          go_wp2_with fail
          go_meet
          exact ⟨by have := HL0.out; simp; omega, H5⟩
      · have e : bb = false := by rw [hbb]; simp; omega
        have g1 : ¬ flip ≥ 0 := hf0
        subst e
        clear hbb
        go_wp2_with fail
        go_meet
        exact ⟨rfl, H5⟩
    case rest =>
     clear H5 hbb
     obtain ⟨rfl, H5⟩ := hcut
     go_upto_if 88 with (fail)
     go_cut [12] (fun tv wx => tv = .int .i64 av0 ∧ Hid (CrS W A p B F V o s keep flip KM 0 wx))
     case first =>
      cases bb with
      | false =>
        have e : av0 = -1 := by
          rw [HLN.out.2, at0, if_neg]
          intro hc
          have h1 := List.length_pos_iff.2 hc.2
          have h2 := HLN.out.1
          have h3 := HBB.out
          have : decide (0 ≤ flip ∧ 0 < LN) = true := by simp; omega
          rw [this] at h3; cases h3
        subst e
        go_wp2_with fail
        go_meet
        exact ⟨rfl, H5⟩
      | true =>
        have hc : 0 ≤ flip ∧ 0 < LN := by have := HBB.out; simpa using this.symm
        obtain ⟨hf0, hl0⟩ := hc
        obtain ⟨fl, rfl⟩ : ∃ fl : Nat, flip = (fl : Int) := ⟨flip.toNat, by omega⟩
        obtain ⟨mm, hmm⟩ : ∃ mm, mm = 8 * LN := ⟨_, rfl⟩
        have hmmI : 8 * (LN : Int) = (mm : Int) := by omega
        have hmm0 : ¬ ((mm : Int) = 0) := by omega
        have hne : looseD s keep ≠ [] := fun e => by have := HLN.out.1; rw [e] at this; simp at this; omega
        have e : (fl : Int).tmod (mm : Int) = av0 := by
          rw [Int.tmod_eq_emod_of_nonneg (by omega), HLN.out.2, at0, if_pos ⟨hf0, hne⟩, ← HLN.out.1, Int.toNat_natCast, hmm]
          exact (Int.natCast_emod fl (8 * LN)).symm
        clear hne hmm hl0
        go_wp2_with fail
        go_meet
        exact ⟨rfl, H5⟩
     case rest =>
       clear H5
       obtain ⟨rfl, H5⟩ := hcut
       go_upto_block 2 with (fail)
       go_cut [] (fun wx => Hid (CrS W A p B F V o s keep flip KM LN wx))
       case first =>
         go_wp2_with fail
         go_loopw [12, 13] (fun tv iv' wr => ∃ (i cnt : Nat) (av : Int), i ≤ m ∧ iv' = .int .i64 (i : Nat) ∧ tv = .int .i64 av ∧ cnt ≤ LN ∧ av = av0 - 8 * (cnt : Int) ∧ Hid (cnt = (looseN s.fs (filesD s.fs) keep i).length) ∧ Hid (CrS W A p B F V o s keep flip KM cnt wr)) (fun _ iv' _ => m - (intOf iv').toNat)
         case atStart => exact ⟨0, 0, av0, by omega, rfl, rfl, by omega, by omega, Lib.hid rfl, H5⟩
         case round =>
           clear H5
           obtain ⟨i, cnt, av, hi, rfl, rfl, hcl, hav1, HCN, HS⟩ := hrel
           by_cases him : i < m
           · obtain ⟨n, hn⟩ : ∃ n, (filesD s.fs)[i]? = some n := ⟨_, List.getElem?_eq_getElem (by rw [← HM.out]; exact him)⟩
             have hnm := mem_filesD.1 (List.mem_of_getElem? hn)
             have hS : Sat W wr _ := HS.out
             obtain ⟨fb, fo, rfl, hfcell⟩ := cells_ext HFC.out (fun e => by simp at e; rw [e] at hn; simp at hn)
             have hc1 : wr.cell? ⟨fb, fo + i, none⟩ = some (.int .i64 (n : Nat)) := hfcell wr hS.p5.ext i _ (by rw [List.getElem?_map, hn]; rfl)
             have c2 : wr.cell? ⟨p, 2, none⟩ = some (.slice (some ⟨F, 0, none⟩) 64 64) := hS.cell 2
             obtain ⟨d, hd⟩ : ∃ d, d = (s.fs n).2 := ⟨_, rfl⟩
             have cf : wr.cell? ⟨F, n, none⟩ = some (.int .i64 (d : Nat)) := by rw [hS.p2.cell n, rowC_get _ hnm.1, hd]; rfl
             obtain ⟨k, hk⟩ : ∃ k, k = keptD (s.fs n) keep i := ⟨_, rfl⟩
             have hcn : (cutD s keep).fs n = cutF (s.fs n) k := by rw [hk]; exact cutN_at (filesD_nodup s.fs) hn (by rw [← HM.out]; exact him)
             have hlen : ((cutD s keep).fs n).1.length = d + k := by
               rw [hcn, cutF_len _ _ (HOK.out.dur n) (by rw [hk]; exact keptD_le _ _ _), hd]
             have hll : d + k ≤ 16777216 := by
               have h1 := file_le HOK.out n
               have h2 := keptD_le (s.fs n) keep i
               have h3 := HOK.out.dur n
               rw [hd, hk]; omega
             have hcnk : cnt + k = (looseN s.fs (filesD s.fs) keep (i + 1)).length := by rw [loose_len hn, ← HCN.out, ← hk]
             have hcl2 : cnt + k ≤ LN := by
               obtain ⟨r, hr⟩ := looseN_mono (fs := s.fs) (ks := filesD s.fs) (keep := keep) (i := i + 1) (j := (filesD s.fs).length) (by rw [← HM.out]; omega)
               rw [HLN.out.1, looseD, hr, hcnk, List.length_append]; omega
             have hlo : ∀ x, x < k → (looseD s keep)[cnt + x]? = some (n, d + x) := fun x hx => by
               rw [HCN.out, hd]
               exact loose_at hn (by rw [← HM.out]; exact him) (by rw [← hk]; exact hx)
             have HN := Lib.hid (And.intro hlen (And.intro hcnk (And.intro hlo hnm.1)))
             have himI : (i : Int) < (m : Int) := by omega
             have hn64 : (n : Int) < 64 := by have := hnm.1; omega
             clear hn hnm hS hfcell hd hk hcn hlen hcnk hlo him
             go_wp2_with fail
             clear hc1 c2 cf
             go_loopw [12, 15] (fun tv kv wr => ∃ (x y : Nat) (av : Int), x ≤ k ∧ kv = .int .i64 (y : Nat) ∧ tv = .int .i64 av ∧ Hid (y = d + x) ∧ av = av0 - 8 * ((cnt : Int) + (x : Int)) ∧ Hid (CrS W A p B F V o s keep flip KM (cnt + x) wr)) (fun _ kv _ => d + k - (intOf kv).toNat)
             case atStart => exact ⟨0, d, av, by omega, rfl, rfl, Lib.hid rfl, by omega, HS⟩
             case round =>
               clear HS hav1
               obtain ⟨x, y, av2, hx, rfl, rfl, HY, hav2, HS⟩ := hrel
               have hS : Sat W wr _ := HS.out
               obtain ⟨ba, bc, hVn⟩ := fokrh_cell hS.p3 HN.out.2.2.2
               rw [HN.out.1] at hVn
               have c1 : wr.cell? ⟨p, 1, none⟩ = some (.slice (some ⟨B, 0, none⟩) 64 64) := hS.cell 1
               obtain ⟨e, he⟩ : ∃ e, e = d + k := ⟨_, rfl⟩
               rw [← he] at hVn
               have cb : wr.cell? ⟨B, n, none⟩ = some (.slice ba e bc) := by rw [hS.p1.cell n, rowC_get _ HN.out.2.2.2, hVn]
               by_cases hxk : x < k
               · have hye : (y : Int) < (e : Int) := by have := HY.out; omega
                 have hin := at0_in (s := s) (keep := keep) (flip := flip) (cnt := cnt + x) (by rw [← HLN.out.1]; omega)
                 rw [← HLN.out.2] at hin
                 have hin2 : (0 ≤ av2 ∧ av2 < 8) ↔ cnt + x = flN s keep flip := by
                   rw [← hin, hav2]; constructor <;> (intro h; push_cast at *; omega)
                 have hsub : av2 - 8 = av0 - 8 * ((cnt : Int) + ((x + 1 : Nat) : Int)) := by push_cast; omega
                 by_cases hh : cnt + x = flN s keep flip
                 · obtain ⟨g1, g2⟩ := hin2.2 hh
                   obtain ⟨f1, f2, f3, f4⟩ := fl_here (s := s) (keep := keep) (flip := flip) (cnt := cnt + x) (by rw [← HLN.out.1]; omega) hh (HN.out.2.2.1 x hxk)
                   have ho2 : o = some (n, G n, C) := by
                     rw [HO.out, f1]
                     show (if n ∈ (filesD s.fs).take (filesD s.fs).length then some (n, G n, C) else none) = _
                     have hm : n ∈ filesD s.fs := by
                       obtain ⟨j', hj', hk1, -⟩ := looseN_mem (List.mem_of_getElem? (show (looseN s.fs (filesD s.fs) keep (filesD s.fs).length)[cnt + x]? = some (n, d + x) from HN.out.2.2.1 x hxk))
                       exact List.mem_of_getElem? hk1
                     rw [List.take_of_length_le (Nat.le_refl _), if_pos hm]
                   subst ho2
                   have hV2 := hS.p3.pers_heap.2 _ rfl
                   dsimp only at hV2
                   rw [hVn, HN.out.1, ← he] at hV2
                   simp only [Value.slice.injEq, true_and] at hV2
                   obtain ⟨rfl, rfl⟩ := hV2
                   obtain ⟨gb, hgb⟩ : ∃ gb, gb = G n := ⟨_, rfl⟩
                   rw [← hgb] at hS cb
                   rw [f4] at hS
                   have hyx : y = d + x := HY.out
                   have hjl : y < ((cutD s keep).fs n).1.length := by rw [HN.out.1]; omega
                   have hS3 : Sat W wr.drew (sep (osl 5 1 (some ⟨gb, 0, none⟩) ((cutD s keep).fs n).1.length bc (((cutD s keep).fs n).1.map bv)) (sep (blk p (.cells (rdC B F s) 50 (0, 0))) (sep (blk B (.cells (rowC V) 39 (0, 0))) (sep (blk F (.cells (rowC (firmV s.fs)) 3 (0, 0))) (sep (fokrh V (cutD s keep).fs (some (n, gb, bc))) (sep (kn KM) A)))))) := by
                     have : Sat W wr.drew (sep (blk p (.cells (rdC B F s) 50 (0, 0))) (sep (blk B (.cells (rowC V) 39 (0, 0))) (sep (blk F (.cells (rowC (firmV s.fs)) 3 (0, 0))) (sep (fokrh V (cutD s keep).fs (some (n, gb, bc))) (sep (osl 5 1 (some ⟨gb, 0, none⟩) ((cutD s keep).fs n).1.length bc (((cutD s keep).fs n).1.map bv)) (sep (kn KM) A)))))) := hS.drew
                     simpa only [sep_comm, sep_lcomm, sep_assoc] using this
                   obtain ⟨r, hr⟩ : ∃ r, r = flip.toNat % (8 * (looseD s keep).length) % 8 := ⟨_, rfl⟩
                   rw [← hr] at f2 f3
                   have hr8 : r < 8 := by rw [hr]; exact Nat.mod_lt _ (by omega)
                   have har : av2 = (r : Int) := by rw [hav2, HLN.out.2]; rw [← f2]; push_cast; rfl
                   obtain ⟨xb, hxb⟩ : ∃ xb, xb = ((cutD s keep).fs n).1[y] := ⟨_, rfl⟩
                   obtain ⟨g', hg', hgc, hgf, hset⟩ := hS3.osl_set y (by rw [List.length_map]; exact hjl) (.int .u8 ((flipB xb r).toNat : Nat))
                   simp only [Option.some.injEq, Addr.mk.injEq, and_true] at hg'
                   subst hg'
                   rw [List.getElem_map, ← hxb] at hgc
                   have hgc' : wr.drew.cell? ⟨gb, y, none⟩ = some (.int .u8 (xb.toNat : Nat)) := hgc
                   have hfv := flip_val xb r
                   obtain ⟨sh, hsh⟩ : ∃ sh, sh = 7 - r := ⟨_, rfl⟩
                   rw [← hsh] at hfv
                   have h7 : (7 : Int) - (r : Int) = (sh : Int) := by omega
                   have hwm : IntKind.i64.wrap (sh : Int) = (sh : Int) := IntWalk.i64_in _ (by omega)
                   have hsh8 : sh < 8 := by omega
                   have hfin : CrS W A p B F V (some (n, gb, bc)) s keep flip KM (cnt + (x + 1)) (wr.drew.setCell ⟨gb, y, none⟩ (.int .u8 ((flipB xb r).toNat : Nat))) := by
                     unfold CrS
                     have e1 : dset (cutD s keep).fs n (((cutD s keep).fs n).1.modify (d + x) fun x => flipB x r, ((cutD s keep).fs n).2) n = (((cutD s keep).fs n).1.modify (d + x) fun x => flipB x r, ((cutD s keep).fs n).2) := by simp [dset]
                     rw [← Nat.add_assoc, f3, holeA]
                     dsimp only
                     rw [e1]
                     dsimp only
                     rw [List.length_modify, ← hyx, modify_set _ _ hjl, ← hxb, List.map_set]
                     have h9 : Sat W (wr.drew.setCell ⟨gb, y, none⟩ (.int .u8 ((flipB xb r).toNat : Nat))) (sep (osl 5 1 (some ⟨gb, 0, none⟩) ((cutD s keep).fs n).1.length bc ((((cutD s keep).fs n).1.map bv).set y (bv (flipB xb r)))) (sep (blk p (.cells (rdC B F s) 50 (0, 0))) (sep (blk B (.cells (rowC V) 39 (0, 0))) (sep (blk F (.cells (rowC (firmV s.fs)) 3 (0, 0))) (sep (fokrh V (cutD s keep).fs (some (n, gb, bc))) (sep (kn KM) A)))))) := hset
                     simpa only [sep_comm, sep_lcomm, sep_assoc] using h9
                   have HFIN := Lib.hid hfin
                   have HSUB := Lib.hid (show (r : Int) - 8 = av0 - 8 * ((cnt : Int) + ((x + 1 : Nat) : Int)) by rw [← har]; exact hsub)
                   have c1d : wr.drew.cell? ⟨p, 1, none⟩ = some (.slice (some ⟨B, 0, none⟩) 64 64) := c1
                   have cbd : wr.drew.cell? ⟨B, n, none⟩ = some (.slice (some ⟨gb, 0, none⟩) e bc) := cb
                   have hS0 : True := trivial
                   have hr0 : (r : Int) ≥ 0 := by omega
                   have hr8I : (r : Int) < 8 := by omega
                   have hyb : y ≤ 16777216 := by omega
                   have hy0 : (0 : Int) ≤ (y : Int) := by omega
                   have hsubI : IntKind.i64.wrap ((r : Int) - 8) = (r : Int) - 8 := IntWalk.i64_in _ (by omega)
                   have HYX := Lib.hid hyx
                   have HE := Lib.hid he
                   have HGB := Lib.hid hgb
                   clear hin hin2 hh f1 f2 f3 f4 hS hVn HS he hsub hav2 hS3 hset hfin hgc hxb hsh hjl hyx hgb hr hx g1 g2 HY
                   subst har
                   go_upto_region 23 with (fail)
                   refine wp_region_canon rfl (fun _ => True) [(0, .p), (1, .p), (2, .p), (3, .t), (4, .p), (5, .p), (6, .t), (7, .p), (8, .p), (9, .p), (10, .p), (11, .t), (12, .p), (13, .p), (14, .t), (15, .p), (16, .p), (17, .t), (18, .p), (19, .p), (20, .p), (21, .p), (22, .p), (23, .p), (24, .e false)] (by kernel_rfl) ?_
                   (repeat (first | (refine C_p (v := ?_) rfl rfl (fun w' => ?_) ?_; rotate_left; (go_simp; with_reducible rfl); simp only [Act.put, List.setIfInBounds_toArray, List.set_cons_zero, List.set_cons_succ]) | (refine C_s (v := ?_) rfl rfl hS0 (fun w' hS => ?_) ?_; rotate_left; ((try dsimp only at hS); go_simp; with_reducible rfl); simp only [Act.put, List.setIfInBounds_toArray, List.set_cons_zero, List.set_cons_succ]) | (refine C_t (v := ?_) rfl rfl ?_ ?_; rotate_left; (go_simp; with_reducible rfl); simp only [Act.put, List.setIfInBounds_toArray, List.set_cons_zero, List.set_cons_succ]) | (refine C_po rfl rfl ?_; simp only [Act.put, List.setIfInBounds_toArray, List.set_cons_zero, List.set_cons_succ]) | (refine C_so rfl rfl hS0 ?_; simp only [Act.put, List.setIfInBounds_toArray, List.set_cons_zero, List.set_cons_succ]) | (refine C_to rfl rfl ?_; simp only [Act.put, List.setIfInBounds_toArray, List.set_cons_zero, List.set_cons_succ])))
                   (refine C_e rfl rfl (fun K hK => ?_); go_simp)
                   have hcv : min (IntKind.u64.wrap (sh : Int)).toNat 8 = sh := by
                     rw [IntKind.wrap_u64]; omega
                   rw [hcv, hfv]
                   obtain ⟨w5, hw5⟩ : ∃ w5, w5 = (wr.setCell ⟨gb, y, none⟩ (.int .u8 ((flipB xb r).toNat : Nat))).drew := ⟨_, rfl⟩
                   have HF2 : Hid (CrS W A p B F V (some (n, G n, bc)) s keep flip KM (cnt + (x + 1)) w5) := Lib.hid (by rw [hw5, ← HGB.out]; exact HFIN.out)
                   rw [← hw5]
                   clear hw5 HFIN c1d cbd hgc' hgf hfv hcv c1 cb hwm h7
                   (refine hK _ _ (fun h => by cases h) ?_; clear hK K; (try simp only [Act.put, List.setIfInBounds_toArray, List.set_cons_zero, List.set_cons_succ]))
                   refine C_nil ?_
                   go_wp2_with fail
                   go_roundw
                   case rel => exact ⟨x + 1, y + 1, (r : Int) - 8, by omega, rfl, rfl, Lib.hid (by have := HYX.out; omega), HSUB.out, HF2⟩
                   case measure => have := HYX.out; simp only [intOf]; omega
                 ·
                   /-DEV-/
                   have HS2 : Hid (CrS W A p B F V o s keep flip KM (cnt + (x + 1)) wr) := Lib.hid (by
                     have h1 := HS.out
                     unfold CrS at h1 ⊢
                     rw [← Nat.add_assoc, fsP_next hh]; exact h1)
                   have hnin : ¬ (0 ≤ av2 ∧ av2 < 8) := fun h => hh (hin2.1 h)
                   have HSUB := Lib.hid hsub
                   have HNIN := Lib.hid hnin
                   have hyb : y ≤ 16777216 := by have := HY.out; omega
                   have hav3 : -8589934600 ≤ av2 ∧ av2 ≤ 8589934600 := by omega
                   clear hin hin2 hh hS hVn HS he hnin hsub hav2
                   rcases Int.lt_or_le av2 0 with g1 | g1
                   · have g2 : ¬ av2 ≥ 0 := by omega
                     go_wp2_with fail
                     go_roundw
                     case rel => exact ⟨x + 1, y + 1, av2 - 8, by omega, rfl, rfl, Lib.hid (by have := HY.out; omega), HSUB.out, HS2⟩
                     case measure => have := HY.out; simp only [intOf]; omega
                   · have g2 : ¬ av2 < 8 := by have := HNIN.out; omega
                     have g3 : av2 ≥ 0 := g1
                     go_wp2_with fail
                     go_roundw
                     case rel => exact ⟨x + 1, y + 1, av2 - 8, by omega, rfl, rfl, Lib.hid (by have := HY.out; omega), HSUB.out, HS2⟩
                     case measure => have := HY.out; simp only [intOf]; omega
                   /-VED-/
               · have hye : ¬ (y : Int) < (e : Int) := by have := HY.out; omega
                 obtain rfl : x = k := by omega
                 have HAV := Lib.hid hav2
                 clear hS hVn he hav2 hxk
                 go_wp2_with fail
                 go_roundw
                 case rel => exact ⟨i + 1, cnt + x, av2, by omega, rfl, rfl, hcl2, by have := HAV.out; push_cast; omega, Lib.hid HN.out.2.1, HS⟩
                 case measure => simp only [intOf]; omega
           · obtain rfl : i = m := by omega
             have e : cnt = LN := by rw [HCN.out, HM.out, HLN.out.1]; rfl
             subst e
             clear hav1
             go_wp2_with fail
             go_meet
             exact HS
       case rest =>
         clear H5
         have H6 : Hid (HardI W (sep (kn KM) A) p B F V { s with fs := flipL (cutD s keep).fs (looseD s keep) flip } 0 wc) := Lib.hid (CrS.done (by have := hcut.out; rwa [HO.out, HLN.out.1] at this))
         have hok1 : ({ s with fs := flipL (cutD s keep).fs (looseD s keep) flip } : DSt).ok := (cutN_ok HOK.out (filesD s.fs) keep (filesD s.fs).length).alike (fs := flipL (cutD s keep).fs (looseD s keep) flip) (fun j => flipL_len _ _ _ j)
         obtain ⟨s1, hs1⟩ : ∃ s1 : DSt, s1 = { s with fs := flipL (cutD s keep).fs (looseD s keep) flip } := ⟨_, rfl⟩
         rw [← hs1] at H6 hok1
         have HS1 := Lib.hid (And.intro hs1 hok1)
         clear hcut hs1 hok1 hav
         go_wp2_with fail
         go_loopw [16] (fun iv' wr => ∃ i : Nat, i ≤ 64 ∧ iv' = .int .i64 (i : Nat) ∧ Hid (HardI W (sep (kn KM) A) p B F V s1 i wr)) (fun iv' _ => 64 - (intOf iv').toNat)
         case atStart => exact ⟨0, by omega, rfl, H6⟩
         case round =>
           clear H6
           obtain ⟨i, hi, rfl, HS⟩ := hrel
           by_cases hi64 : i < 64
           · obtain ⟨a, l, c, c1, c2, c3, ⟨v, c4⟩, fz, h4⟩ := HS.out.step hi64
             have c1d : wr.drew.cell? ⟨p, 1, none⟩ = some (.slice (some ⟨B, 0, none⟩) 64 64) := c1
             have c2d : wr.drew.cell? ⟨p, 2, none⟩ = some (.slice (some ⟨F, 0, none⟩) 64 64) := c2
             have c3d : wr.drew.cell? ⟨B, i, none⟩ = some (.slice a l c) := c3
             have c4d : wr.drew.cell? ⟨F, i, none⟩ = some v := c4
             have fzd : wr.drew.frozen? ⟨F, i, none⟩ = false := fz
             have HD : Hid (HardI W (sep (kn KM) A) p B F V s1 (i + 1) (wr.setCell ⟨F, i, none⟩ (.int .i64 (l : Nat))).drew) := Lib.hid (Sat.drew h4)
             have hS0 : True := trivial
             clear h4 c1 c2 c3 c4 fz HS
             go_wp2_with fail
             refine wp_region_canon rfl (fun _ => True) [(0, .p), (1, .p), (2, .p), (3, .t), (4, .p), (5, .p), (6, .p), (7, .p), (8, .t), (9, .p), (10, .p), (11, .t), (12, .p), (13, .p), (14, .e false)] (by kernel_rfl) ?_
             (repeat (first | (refine C_p (v := ?_) rfl rfl (fun w' => ?_) ?_; rotate_left; (go_simp; with_reducible rfl); simp only [Act.put, List.setIfInBounds_toArray, List.set_cons_zero, List.set_cons_succ]) | (refine C_s (v := ?_) rfl rfl hS0 (fun w' hS => ?_) ?_; rotate_left; ((try dsimp only at hS); go_simp; with_reducible rfl); simp only [Act.put, List.setIfInBounds_toArray, List.set_cons_zero, List.set_cons_succ]) | (refine C_t (v := ?_) rfl rfl ?_ ?_; rotate_left; (go_simp; with_reducible rfl); simp only [Act.put, List.setIfInBounds_toArray, List.set_cons_zero, List.set_cons_succ]) | (refine C_po rfl rfl ?_; simp only [Act.put, List.setIfInBounds_toArray, List.set_cons_zero, List.set_cons_succ]) | (refine C_so rfl rfl hS0 ?_; simp only [Act.put, List.setIfInBounds_toArray, List.set_cons_zero, List.set_cons_succ]) | (refine C_to rfl rfl ?_; simp only [Act.put, List.setIfInBounds_toArray, List.set_cons_zero, List.set_cons_succ])))
             (refine C_e rfl rfl (fun K hK => ?_); go_simp)
             clear c1d c2d c3d c4d fzd
             (refine hK _ _ (fun h => by cases h) ?_; clear hK K; (try simp only [Act.put, List.setIfInBounds_toArray, List.set_cons_zero, List.set_cons_succ]))
             refine C_nil ?_
             go_wp2_with fail
             go_roundw
             case rel => exact ⟨i + 1, by omega, rfl, HD⟩
             case measure => simp only [intOf]; omega
           · obtain rfl : i = 64 := by omega
             have h7 := HS.out.done HS1.out.2
             obtain ⟨B2, F2, V2, -, h8⟩ := isRD_open h7
             have c3 : wr.cell? ⟨p, 3, none⟩ = some (.bool s1.off) := h8.cell 3
             have c4 : wr.cell? ⟨p, 4, none⟩ = some (.int .i64 (planI s1.plan)) := h8.cell 4
             have z3 := h8.unfrozen 3
             have z4 := h8.unfrozen 4
             have h9 := (h8.setCell 3 (.bool false)).setCell 4 (.int .i64 (-1))
             have hfin : Sat W ((wr.setCell ⟨p, 3, none⟩ (.bool false)).setCell ⟨p, 4, none⟩ (.int .i64 (-1))) (sep (isRD p (crashD s keep flip)) (sep (kn I) A)) := by
               have e1 : crashD s keep flip = { s1.hard with off := false, plan := none } := by rw [HS1.out.1]; rfl
               rw [e1]
               have hk1 := HS1.out.2.hard
               have h10 : Sat W ((wr.setCell ⟨p, 3, none⟩ (.bool false)).setCell ⟨p, 4, none⟩ (.int .i64 (-1))) (sep (isRD p { s1.hard with off := false, plan := none }) (sep (kn KM) A)) := isRD_mk (B := B2) (F := F2) (V := V2) ⟨hk1.dur, hk1.hi, hk1.fit, hk1.room, fun q hq => by cases hq⟩ h9
               exact (h10.p1.kn_mono HIK.out).p1
             have HFIN := Lib.hid hfin
             clear h7 h8 h9 hfin HS
             go_wp2_with fail
             go_end0
             exact ⟨rfl, HFIN.out⟩
end Go.Proofs.YtdaknmcmjnbfeaaGreat
