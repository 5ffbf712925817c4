/- Package disk: Crash. -/
import Derived.Test.YtdaknmcmjnbfeaaGreatGJournalRunsSD7
namespace Go.Proofs.YtdaknmcmjnbfeaaGreat
open Go.RowKit PA
theorem infoU8P : (Tryz.prog.info? 68).map (fun i => (i.zero, i.size, i.bytes)) = some (some (.pointer none), 1, 8) := by kernel_rfl
theorem lookh_is {W w : World} {A : Assn} {f : Int → Option Value} {fs : Nat → File} {o : Hole} (h : Sat W w (sep (fokhA f fs o) A)) (n : Nat) (hne : (fs n).1 ≠ []) (ho : ∀ x, o = some x → n ≠ x.1) :
    ∃ a c, f (n : Int) = some (fileV a (fs n).1.length c (fs n).2) ∧ Sat W w (sep (rBytes.is [.slice a (fs n).1.length c] (fs n).1) (sep (fokhA f fs o) A)) := by
  obtain ⟨a, c, e, -⟩ := h.pers_heap.1 n hne ho
  refine ⟨a, c, e, h.dup.wk ?_⟩
  rintro I m ⟨x, y, h1, h2, ⟨h3, h4⟩, h5⟩
  refine ⟨x, y, h1, h2, ⟨h3, ?_⟩, h5⟩
  obtain ⟨a', c', e', hr⟩ := h4.1 n hne ho
  rw [e] at e'
  have e2 := Option.some.inj e'
  unfold fileV at e2
  simp only [Value.agg.injEq, Array.mk.injEq, List.cons.injEq, Value.slice.injEq, true_and, and_true] at e2
  obtain ⟨rfl, rfl⟩ := e2
  exact hr
theorem rel_take2 {I : Mem} {a : Option Addr} {n c : Nat} {l : List UInt8} (k : Nat) (hk : k ≤ n) (hv : rBytes.rel I [.slice a n c] l) : (l.take k).length = k ∧ Swf a k c ∧ ∀ w, Ext I w → ∀ b, a = some b → ∀ j u, ((l.take k).map bv)[j]? = some u → w.cell? (b.add j) = some u := by
  obtain ⟨h1, h2⟩ := rel_take' k hk hv
  rw [h2] at h1
  exact rel_src' h1
theorem cutN_at {fs : Nat → File} {ks : List Nat} {keep : List Int} (hn : ks.Nodup) {j t : Nat} (h : ks[j]? = some t) : ∀ {i : Nat}, j < i → cutN fs ks keep i t = cutF (fs t) (keptD (fs t) keep j)
  | 0, hj => by omega
  | i + 1, hj => by
    have same : ∀ n, ks[i]? = some n → n = t → j = i := fun n h2 e => by
      rw [e] at h2
      obtain ⟨a1, a2⟩ := List.getElem?_eq_some_iff.1 h
      obtain ⟨b1, b2⟩ := List.getElem?_eq_some_iff.1 h2
      exact (List.getElem_inj hn).1 (a2.trans b2.symm)
    rcases hm : ks[i]? with _ | n
    · rw [cutN_none hm]
      refine cutN_at hn h ?_
      rcases Nat.lt_or_ge j i with h3 | h3
      · exact h3
      · obtain rfl : j = i := by omega
        rw [h] at hm; cases hm
    · rw [cutN_some hm]
      by_cases e : n = t
      · have := same n hm e
        subst e; subst this
        simp [dset]
      · have hji : j < i := by
          rcases Nat.lt_or_ge j i with h3 | h3
          · exact h3
          · obtain rfl : j = i := by omega
            rw [h] at hm
            exact absurd (Option.some.inj hm).symm e
        have := cutN_at hn h (fs := fs) (keep := keep) hji
        simp [dset, Ne.symm e, this]
theorem modify_set {α : Type} (l : List α) (j : Nat) (hj : j < l.length) (g : α → α) : l.modify j g = l.set j (g l[j]) := by
  apply List.ext_getElem
  · simp
  · intro y h1 h2
    simp only [List.getElem_set, List.getElem_modify]
    split
    · rename_i e; subst e; rfl
    · rfl
/-- A byte of the open file is written, and the file given up. -/
theorem cr_flip {W w : World} {A : Assn} {f : Int → Option Value} {fs : Nat → File} (t g C j : Nat) (hj : j < (fs t).1.length) (h : Sat W w (sep (fokhA f fs (some (t, g, C))) (sep (holeA fs (some (t, g, C))) A))) :
    w.cell? ⟨g, j, none⟩ = some (.int .u8 ((fs t).1[j].toNat : Nat)) ∧ w.frozen? ⟨g, j, none⟩ = false ∧
    ∀ v : UInt8, Sat W (w.setCell ⟨g, j, none⟩ (.int .u8 (v.toNat : Nat))) (sep (fokA f (dset fs t ((fs t).1.set j v, (fs t).2))) A) := by
  have h1 : Sat W w (sep (osl 5 1 (some ⟨g, 0, none⟩) (fs t).1.length C ((fs t).1.map bv)) (sep (fokhA f fs (some (t, g, C))) A)) := h.p1
  have hj' : j < ((fs t).1.map bv).length := by rw [List.length_map]; exact hj
  obtain ⟨g', e, hc, hz, -⟩ := h1.osl_set j hj' (.int .u8 0)
  cases e
  rw [List.getElem_map] at hc
  refine ⟨hc, hz, fun v => ?_⟩
  obtain ⟨g', e, -, -, h2⟩ := h1.osl_set j hj' (.int .u8 (v.toNat : Nat))
  cases e
  have e1 : dset fs t ((fs t).1.set j v, (fs t).2) t = ((fs t).1.set j v, (fs t).2) := by simp [dset]
  have h3 : Sat W (w.setCell ⟨g, j, none⟩ (.int .u8 (v.toNat : Nat))) (sep (fokhA f (dset fs t ((fs t).1.set j v, (fs t).2)) (some (t, g, C))) (sep (holeA (dset fs t ((fs t).1.set j v, (fs t).2)) (some (t, g, C))) A)) := by
    rw [holeA]
    dsimp only
    rw [e1, List.map_set]
    dsimp only
    rw [List.length_set]
    refine h2.p1.wk ?_
    rintro I m ⟨x, y, d1, rfl, ⟨rfl, hf⟩, hA⟩
    exact ⟨Mem.no, y, fun _ => .inl rfl, rfl, ⟨rfl, hf.change (by simp)⟩, hA⟩
  exact cr_close h3
set_option maxRecDepth 100000 in
set_option maxHeartbeats 8000000 in
theorem dcrash_spec {W w : World} {A : Assn} {I : Mem} (p : Nat) (s : DSt) (ka : Option Addr) (nk kc : Nat) (keep : List Int) (flip : Int) (h : Sat W w (sep (isDisk p s) (sep (kn I) A))) (hv : (rInt.slice 1).rel I [.slice ka nk kc] keep) (hk64 : ∀ x ∈ keep, I64' x) (hflip : I64' flip) :
    Calls Tryz.prog 11 #[.pointer (some ⟨p, 0, none⟩), .slice ka nk kc, .int .i64 flip] w fun e w' => e = .returned (.tuple #[]) ∧ Sat W w' (sep (isDisk p (crashD s keep flip)) (sep (kn I) A)) := by
  have hfi := dfiles_spec p s h
  have HFI := Lib.hid hfi
  have HK64 := Lib.hid hk64
  have HFL := Lib.hid hflip
  obtain ⟨ka', kc', e, hksw, hkc⟩ := ints_rel.1 hv
  simp only [Value.slice.injEq] at e
  obtain ⟨rfl, hnk, rfl⟩ := e
  obtain ⟨tg, htg⟩ : ∃ tg, tg = tgt s keep flip := ⟨_, rfl⟩
  obtain ⟨m, hm⟩ : ∃ m, m = (filesD s.fs).length := ⟨_, rfl⟩
  have hm64 : m ≤ 64 := by rw [hm]; exact filesD_len _
  rw [← hm] at HFI
  have HM := Lib.hid hm
  have HKC := Lib.hid (And.intro hnk (And.intro hksw hkc))
  clear hfi hk64 hflip hv hm hnk hksw hkc
  go_enter Tryz.func11, Tryz.ntmps11
  go_wp2_with fail
  refine HFI.out.mono ?_
  rintro e w1 ⟨fa, fc, rfl, h1⟩
  clear HFI h
  obtain ⟨b, f, nf, left, hok, hpl, hl64, h2⟩ := isDisk_open h1.p1
  obtain ⟨KM, hIK, hfc, h3⟩ := (show Sat W w1 (sep (rsl fa ((filesD s.fs).map fun j : Nat => iv j)) (sep (kn I) (sep (blk p (.cells (diskC b s left) 62 (0, 0))) (sep (bmap b f nf) (sep (fokA f s.fs) A))))) by
    have := (show Sat W w1 (sep (osl 3 1 fa m fc ((filesD s.fs).map fun j : Nat => iv j)) (sep (kn I) (sep (blk p (.cells (diskC b s left) 62 (0, 0))) (sep (bmap b f nf) (sep (fokA f s.fs) A))))) by simpa only [sep_comm, sep_lcomm, sep_assoc] using h2).osl_settle
    exact this).learn
  have h4 : CrI W A p b s left keep tg KM 0 (.slice none 0 0) w1 := by
    refine ⟨none, 0, f, nf, fun _ => 0, 0, rfl, ?_⟩
    have e0 : holeAt tg (filesD s.fs) 0 (fun _ => 0) 0 = none := by unfold holeAt; cases tg <;> simp
    rw [e0]
    show Sat W w1 (sep (osl 68 1 none 0 0 []) (sep (blk p (.cells (diskC b s left) 62 (0, 0))) (sep (bmap b f nf) (sep (fokhA f s.fs none) (sep emp (sep (kn KM) A))))))
    rw [emp_sep]
    refine Sat.osl_nil ?_ _ _
    have h5 : Sat W w1 (sep (fokA f s.fs) (sep (kn KM) (sep (blk p (.cells (diskC b s left) 62 (0, 0))) (sep (bmap b f nf) A)))) := by simpa only [sep_comm, sep_lcomm, sep_assoc] using h3
    have h6 : Sat W w1 (sep (fokhA f s.fs none) (sep (kn KM) (sep (blk p (.cells (diskC b s left) 62 (0, 0))) (sep (bmap b f nf) A)))) := by
      refine h5.wk ?_
      rintro J mm ⟨x, y, d1, rfl, ⟨rfl, hf⟩, hA⟩
      exact ⟨Mem.no, y, d1, rfl, ⟨rfl, hf.toh⟩, hA⟩
    simpa only [sep_comm, sep_lcomm, sep_assoc] using h6
  have HOK := Lib.hid hok
  have HD := Lib.hid (And.intro hpl hl64)
  have HFC := Lib.hid hfc
  have HIK := Lib.hid hIK
  have HTG := Lib.hid htg
  clear h1 h2 h3 hok hpl hl64 hfc hIK htg
  go_wp2_with fail
  go_loopw [6, 17] (fun lv iv' wr => ∃ i : Nat, i ≤ m ∧ iv' = .int .i64 i ∧ CrI W A p b s left keep tg KM i lv wr) (fun _ iv' _ => m - (intOf iv').toNat)
  case atStart => exact ⟨0, Nat.zero_le _, rfl, h4⟩
  case round =>
    clear h4
    obtain ⟨i, hi, rfl, a, c, f, nf, G, C, rfl, hS⟩ := hrel
    by_cases him : i < m
    ·
      /-DEV-/
      obtain ⟨n, hn⟩ : ∃ n, (filesD s.fs)[i]? = some n := ⟨_, List.getElem?_eq_getElem (by rw [← HM.out]; exact him)⟩
      have hnm := mem_filesD.1 (List.mem_of_getElem? hn)
      obtain ⟨fb, fo, rfl, hfcell⟩ := cells_ext HFC.out (fun e => by simp at e; rw [e] at hn; simp at hn)
      have hc1 : wr.cell? ⟨fb, fo + i, none⟩ = some (.int .i64 (n : Nat)) := hfcell wr hS.p5.ext i _ (by rw [List.getElem?_map, hn]; rfl)
      have p0 : wr.cell? ⟨p, 0, none⟩ = some (.map (some b)) := hS.p1.cell 0
      have hcn : cutN s.fs (filesD s.fs) keep i n = s.fs n := cutN_notin fun j hj e => by
        obtain ⟨a1, a2⟩ := List.getElem?_eq_some_iff.1 hn
        obtain ⟨b1, b2⟩ := List.getElem?_eq_some_iff.1 e
        have := (List.getElem_inj (filesD_nodup s.fs)).1 (a2.trans b2.symm)
        omega
      have hno : ∀ x, holeAt tg (filesD s.fs) i G C = some x → n ≠ x.1 := fun x hx e => not_mem_take (filesD_nodup s.fs) hn (by rw [e]; exact holeAt_file hx)
      obtain ⟨a0, c0, hfn, h5⟩ := lookh_is (n := n) (show Sat W wr (sep (fokhA f (cutN s.fs (filesD s.fs) keep i) (holeAt tg (filesD s.fs) i G C)) (sep (kn KM) (sep (osl 68 1 a (looseN s.fs (filesD s.fs) keep i).length c ((looseN s.fs (filesD s.fs) keep i).map (ptrG G))) (sep (blk p (.cells (diskC b s left) 62 (0, 0))) (sep (bmap b f nf) (sep (holeA (cutN s.fs (filesD s.fs) keep i) (holeAt tg (filesD s.fs) i G C)) A)))))) by simpa only [sep_comm, sep_lcomm, sep_assoc] using hS) (by rw [hcn]; exact hnm.2) hno
      rw [hcn] at hfn h5
      obtain ⟨J, hKJ, hr, h6⟩ := h5.p2.p1.learn
      obtain ⟨bs, hbs⟩ : ∃ bs, bs = (s.fs n).1 := ⟨_, rfl⟩
      obtain ⟨d, hd⟩ : ∃ d, d = (s.fs n).2 := ⟨_, rfl⟩
      obtain ⟨l, hl⟩ : ∃ l, l = bs.length := ⟨_, rfl⟩
      obtain ⟨k, hk⟩ : ∃ k, k = keptD (s.fs n) keep i := ⟨_, rfl⟩
      have hdl : d + k ≤ l := by
        have h1 := keptD_le (s.fs n) keep i
        have h2 := HOK.out.dur n
        rw [hl, hk, hbs, hd]; omega
      have hll : l ≤ 16777216 := by rw [hl, hbs]; exact file_le HOK.out n
      rw [← hbs, ← hd] at hfn
      rw [← hbs] at hr
      rw [← hl] at hfn hr
      obtain ⟨R1, hR1⟩ : ∃ R1, R1 = sep (fokhA f (cutN s.fs (filesD s.fs) keep i) (holeAt tg (filesD s.fs) i G C)) (sep (blk p (.cells (diskC b s left) 62 (0, 0))) (sep (bmap b f nf) (sep (holeA (cutN s.fs (filesD s.fs) keep i) (holeAt tg (filesD s.fs) i G C)) A))) := ⟨_, rfl⟩
      obtain ⟨LN, hLN⟩ : ∃ LN, LN = (looseN s.fs (filesD s.fs) keep i).length := ⟨_, rfl⟩
      have hLNb : LN ≤ 1073741824 := by rw [hLN]; exact looseN_len HOK.out _ _ _ (by omega)
      obtain ⟨vs0, hvs0⟩ : ∃ vs0, vs0 = (looseN s.fs (filesD s.fs) keep i).map (ptrG G) := ⟨_, rfl⟩
      rw [← hLN, ← hvs0] at h6
      have h7 : Sat W wr (sep (kn J) (sep (osl 68 1 a LN c vs0) R1)) := by
        rw [hR1]
        simpa only [sep_comm, sep_lcomm, sep_assoc] using h6
      have hlk := run_lookup_bmap (P := Tryz.prog) (T := 60) Tryz.underlying60 Tryz.underlying3 zeroFile hS.p2 (n : Int) false
      rw [hfn] at hlk
      have hlk2 : (Instr.lookup 60 (.map (some b)) (.int .i64 (n : Int)) false).run Tryz.prog wr = .ok (.agg #[.slice a0 l c0, .int .i64 (d : Nat)]) wr := hlk
      have h8 := h7.alloc (.cells #[.slice a0 l c0, .int .i64 (d : Nat)] 66)
      obtain ⟨q, hq⟩ : ∃ q, q = wr.heap.size := ⟨_, rfl⟩
      obtain ⟨w2, hw2⟩ : ∃ w2, w2 = wr.alloc (.cells #[.slice a0 l c0, .int .i64 (d : Nat)] 66) := ⟨_, rfl⟩
      rw [← hq, ← hw2] at h8
      have HN := Lib.hid (And.intro hn (And.intro hbs (And.intro hd (And.intro hl (And.intro hk (And.intro hLN hvs0))))))
      have HR1 := Lib.hid hR1
      have HW2 := Lib.hid (And.intro hq hw2)
      have HR := Lib.hid hr
      have HKJ := Lib.hid hKJ
      have H8 := Lib.hid h8
      have himI : (i : Int) < (m : Int) := by omega
      rw [← hLN]
      clear hS hn hnm hfcell hcn hno hfn h5 h6 h7 h8 hbs hd hl hk hR1 hLN hvs0 hlk hq hw2 hr hKJ him
      go_upto_region 5 with (fail)
      rw [← HW2.out.1, ← HW2.out.2]
      clear hc1 p0 hlk2
      go_upto_if 31 with (fail)
      go_cut [10] (fun kv wx => kv = .int .i64 (k : Nat) ∧ Sat W wx (sep (blk q (.cells #[.slice a0 l c0, .int .i64 (d : Nat)] 66 (0, 0))) (sep (kn J) (sep (osl 68 1 a LN c vs0) R1))))
      case first =>
        by_cases hik : i < nk
        · have hikb : decide ((i : Int) < (nk : Int)) = true := by simp; omega
          have hikl : i < keep.length := by rw [← HKC.out.1]; exact hik
          obtain ⟨kb, ko, hka, hkcell⟩ := cells_ext HKC.out.2.2 (fun e => by simp at e; rw [e] at hikl; simp at hikl)
          obtain ⟨x, hx⟩ : ∃ x, x = keep[i] := ⟨_, rfl⟩
          have hext : Ext I w2.drew := fun b o hb => H8.out.p1.ext b o (HKJ.out _ _ (HIK.out _ _ hb))
          have hc1 : w2.drew.cell? ⟨kb, ko + i, none⟩ = some (.int .i64 x) := hkcell _ hext i _ (by rw [List.getElem?_map, List.getElem?_eq_getElem hikl, hx]; rfl)
          have q0 : w2.drew.cell? ⟨q, 0, none⟩ = some (.slice a0 l c0) := H8.out.drew.cell 0
          have q1 : w2.drew.cell? ⟨q, 1, none⟩ = some (.int .i64 (d : Nat)) := H8.out.drew.cell 1
          subst hka
          have HX := Lib.hid hx
          clear hkcell hext hx
          go_upto_region 7 with (fail)
          refine wp_region_canon rfl (fun _ => True) [(0, .p), (1, .p), (2, .p), (3, .t), (4, .p), (5, .t), (6, .p), (7, .p), (8, .t), (9, .p), (10, .p), (11, .p), (12, .p)] (by kernel_rfl) ?_
          (repeat (first | (refine C_p (v := ?_) rfl rfl (fun w' => ?_) ?_; rotate_left; (go_simp; with_reducible rfl); simp only [Act.put, List.setIfInBounds_toArray, List.set_cons_zero, List.set_cons_succ]) | (refine C_s (v := ?_) rfl rfl hS0 (fun w' hS => ?_) ?_; rotate_left; ((try dsimp only at hS); go_simp; with_reducible rfl); simp only [Act.put, List.setIfInBounds_toArray, List.set_cons_zero, List.set_cons_succ]) | (refine C_t (v := ?_) rfl rfl ?_ ?_; rotate_left; (go_simp; with_reducible rfl); simp only [Act.put, List.setIfInBounds_toArray, List.set_cons_zero, List.set_cons_succ]) | (refine C_po rfl rfl ?_; simp only [Act.put, List.setIfInBounds_toArray, List.set_cons_zero, List.set_cons_succ]) | (refine C_so rfl rfl hS0 ?_; simp only [Act.put, List.setIfInBounds_toArray, List.set_cons_zero, List.set_cons_succ]) | (refine C_to rfl rfl ?_; simp only [Act.put, List.setIfInBounds_toArray, List.set_cons_zero, List.set_cons_succ])))
          refine C_nil ?_
          have hkx : max 0 (min x (IntKind.i64.wrap ((l : Int) - (d : Int)))) = (k : Int) := by
            rw [IntWalk.i64_in _ (by omega)]
            have e : k = keptD (s.fs n) keep i := HN.out.2.2.2.2.1
            have hld := HN.out
            rw [keptD, List.getElem?_eq_getElem hikl, ← HX.out, ← hld.2.1, ← hld.2.2.1, ← hld.2.2.2.1] at e
            dsimp only at e
            omega
          have HKX := Lib.hid hkx
          clear hkx hc1 q0 q1
          go_wp2
          go_meet
          exact ⟨by rw [HKX.out], H8.out.drew⟩
        · have hikb : decide ((i : Int) < (nk : Int)) = false := by simp; omega
          have hk0 : k = 0 := by
            have e : k = keptD (s.fs n) keep i := HN.out.2.2.2.2.1
            rw [keptD, List.getElem?_eq_none (by rw [← HKC.out.1]; omega)] at e
            exact e
          subst hk0
          go_wp2_with fail
          go_meet
          exact ⟨rfl, H8.out⟩
      case rest =>
        obtain ⟨rfl, h9⟩ := hcut
        clear H8 HKC
        have q0 : wc.cell? ⟨q, 0, none⟩ = some (.slice a0 l c0) := h9.cell 0
        have q1 : wc.cell? ⟨q, 1, none⟩ = some (.int .i64 (d : Nat)) := h9.cell 1
        have qz := h9.unfrozen 0
        obtain ⟨e, he⟩ : ∃ e, e = d + k := ⟨_, rfl⟩
        have heI : (d : Int) + (k : Int) = (e : Int) := by omega
        obtain ⟨hr1, hr2, hr3⟩ := rel_take2 e (by omega) HR.out
        have hsw := (rel_src' HR.out).2.1
        have hc0 : l ≤ c0 ∧ c0 ≤ 9223372036854775807 := ⟨hsw.1, hsw.2.1⟩
        have hcl := clone_any a0 e c0 ((bs.take e).map bv) h9 (hr3 wc h9.p1.ext) (by rw [List.length_map]; exact hr1) hr2 (bv_one _) (by omega)
        obtain ⟨bs2, hbs2⟩ : ∃ bs2, bs2 = bs.take e := ⟨_, rfl⟩
        rw [← hbs2] at hcl hr1
        have HCL := Lib.hid hcl
        have HE := Lib.hid (And.intro he (And.intro hr1 hbs2))
        have H9 := Lib.hid h9
        clear h9 hr1 hr2 hr3 hsw hcl he hbs2
        go_wp2_with fail
        refine HCL.out.mono ?_
        rintro e1 w3 ⟨a', c', rfl, h10⟩
        clear HCL q0 q1 qz
        obtain ⟨g, hg⟩ : ∃ g, e ≠ 0 → a' = some ⟨g, 0, none⟩ := by
          by_cases he0 : e = 0
          · exact ⟨0, fun h => absurd he0 h⟩
          · obtain ⟨g, hg, -⟩ := h10.osl_at (fun e2 => he0 (by rw [← HE.out.2.1, ← List.length_map (f := bv), e2]; rfl))
            exact ⟨g, fun _ => hg⟩
        have q0 : w3.cell? ⟨q, 0, none⟩ = some (.slice a0 l c0) := h10.p1.cell 0
        have q1 : w3.cell? ⟨q, 1, none⟩ = some (.int .i64 (d : Nat)) := h10.p1.cell 1
        have qz := h10.p1.unfrozen 0
        have h11 := h10.p1.setCell 0 (.slice a' e c')
        obtain ⟨w4, hw4⟩ : ∃ w4, w4 = w3.setCell ⟨q, 0, none⟩ (.slice a' e c') := ⟨_, rfl⟩
        rw [← hw4] at h11
        have h12 : Sat W w4 (sep (osl 68 1 a LN c vs0) (sep (blk q (.cells #[.slice a' e c', .int .i64 (d : Nat)] 66 (0, 0))) (sep (osl 5 1 a' e c' (bs2.map bv)) (sep (kn J) R1)))) := by simpa only [List.setIfInBounds_toArray, List.set_cons_zero, sep_comm, sep_lcomm, sep_assoc] using h11
        have r1 : w4.cell? ⟨q, 1, none⟩ = some (.int .i64 (d : Nat)) := h12.p1.cell 1
        have HW4 := Lib.hid hw4
        have HG := Lib.hid hg
        clear h10 h11 hw4 hg
        go_upto_region 9 with (fail)
        rw [← HW4.out]
        clear q0 q1 qz
        go_wp2_with fail
        go_loopw [6, 11] (fun lv jv wx => ∃ (x y nl : Nat) (a : Option Addr) (c : Nat) (vs : List Value), x ≤ k ∧ jv = .int .i64 (y : Nat) ∧ lv = .slice a nl c ∧ Hid (y = d + x ∧ nl = LN + x ∧ vs = vs0 ++ (List.range x).map fun j => .pointer (some ⟨g, d + j, none⟩)) ∧ Sat W wx (sep (osl 68 1 a nl c vs) (sep (blk q (.cells #[.slice a' e c', .int .i64 (d : Nat)] 66 (0, 0))) (sep (osl 5 1 a' e c' (bs2.map bv)) (sep (kn J) R1))))) (fun _ jv _ => e - (intOf jv).toNat)
        case atStart => exact ⟨0, d, LN, a, c, vs0, Nat.zero_le _, rfl, rfl, Lib.hid ⟨rfl, rfl, by simp⟩, h12⟩
        case round =>
          clear h12 r1
          obtain ⟨x, y, nl, a, c, vs, hx, rfl, rfl, HVS, h12⟩ := hrel
          have q0 : wr.cell? ⟨q, 0, none⟩ = some (.slice a' e c') := h12.p1.cell 0
          by_cases hxk : x < k
          · have hxI : (y : Int) < (e : Int) := by have := HE.out.1; have := HVS.out.1; omega
            obtain rfl := HG.out (by omega)
            have h13 := (h12.alloc (.cells #[.pointer (some ⟨g, y, none⟩)] 68)).p1
            have hnl : nl ≤ 1090519040 := by have := HVS.out.2.1; omega
            have H12 := Lib.hid h12
            clear h12
            go_wp2_with (at_builtin; refine wpl_append_osl rfl (.tmp 62) (.tmp 67) 63 rfl 68 1 8 (.pointer none) Tryz.underlying63 infoU8P rfl rfl h13 rfl [.pointer (some ⟨g, y, none⟩)] rfl (by simp) (by intro b hb; cases hb; exact new_src _ [_] _) (by simp [Value.oneCell']) (by omega) (by unfold maxLen; omega) ?_)
            intro a2 c2 w6 h14
            have h15 := h14.p1.drop
            have hxk2 : x + 1 ≤ k := hxk
            have hvs2 : vs ++ [.pointer (some ⟨g, y, none⟩)] = vs0 ++ (List.range (x + 1)).map fun j => .pointer (some ⟨g, d + j, none⟩) := by
              rw [HVS.out.2.2, HVS.out.1, List.range_succ, List.map_append, List.append_assoc]; rfl
            have HH := Lib.hid (And.intro hvs2 (And.intro hxk2 h15))
            clear h13 h14 h15 hvs2 hxk2 q0 hxk hx
            go_wp2_with fail
            go_roundw
            case rel => exact ⟨x + 1, y + 1, nl + 1, a2, c2, _, HH.out.2.1, rfl, rfl, Lib.hid ⟨by have := HVS.out.1; omega, by have := HVS.out.2.1; omega, HH.out.1⟩, HH.out.2.2⟩
            case measure => simp only [intOf]; omega
          · have hxI : ¬ (y : Int) < (e : Int) := by have := HE.out.1; have := HVS.out.1; omega
            have q1 : wr.cell? ⟨q, 1, none⟩ = some (.int .i64 (d : Nat)) := h12.p1.cell 1
            have h13 : Sat W wr (sep (blk p (.cells (diskC b s left) 62 (0, 0))) (sep (bmap b f nf) (sep (osl 68 1 a nl c vs) (sep (blk q (.cells #[.slice a' e c', .int .i64 (d : Nat)] 66 (0, 0))) (sep (osl 5 1 a' e c' (bs2.map bv)) (sep (kn J) (sep (fokhA f (cutN s.fs (filesD s.fs) keep i) (holeAt tg (filesD s.fs) i G C)) (sep (holeA (cutN s.fs (filesD s.fs) keep i) (holeAt tg (filesD s.fs) i G C)) A)))))))) := by
              rw [HR1.out] at h12
              simpa only [sep_comm, sep_lcomm, sep_assoc] using h12
            have hxk3 : x = k := by omega
            have hset := dset_raw p b f nf _ _ _ _ n a' e c' d h13
            have HX := Lib.hid hxk3
            have HS := Lib.hid hset
            clear h12 h13 hset hxk3 hx hxk
            go_wp2_with fail
            refine HS.out.mono ?_
            rintro e1 w7 ⟨rfl, nf', h14⟩
            clear HS q0 q1
            have hni : i + 1 ≤ m := by omega
            have hfin : CrI W A p b s left keep tg KM (i + 1) (.slice a nl c) w7 := by
              have hn := HN.out
              have hv := HVS.out
              rw [HX.out] at hv
              rw [HTG.out]
              have h15 : Sat W w7 (sep (kn J) (sep (blk q (.cells #[.slice a' e c', .int .i64 (d : Nat)] 66 (0, 0))) (sep (osl 68 1 a nl c vs) (sep (blk p (.cells (diskC b s left) 62 (0, 0))) (sep (bmap b (setF f n a' e c' d) nf') (sep (osl 5 1 a' e c' (bs2.map bv)) (sep (fokhA f (cutN s.fs (filesD s.fs) keep i) (holeAt tg (filesD s.fs) i G C)) (sep (holeA (cutN s.fs (filesD s.fs) keep i) (holeAt tg (filesD s.fs) i G C)) A)))))))) := by
                have := h14
                simpa only [diskC, sep_comm, sep_lcomm, sep_assoc] using this
              have h16 := (h15.kn_mono HKJ.out).p1.drop
              rw [HTG.out, hn.2.2.1] at h16
              refine CrI.step HOK.out hn.1 (l := e) (bs := bs2) (C := C) (G := G) HE.out.2.1.symm (by rw [HE.out.2.2, HE.out.1, hn.2.1, hn.2.2.1, hn.2.2.2.2.1]) g HG.out (vs := vs) (nv := nl) ?_ ?_ (nf := nf') (f := f) (a' := a') (c' := c') ?_
              · rw [hv.2.2, hn.2.2.2.2.2.2, hn.2.2.2.2.1, hn.2.2.1]
              · rw [hv.2.1, hn.2.2.2.2.2.1, hn.2.2.2.2.1]
              · simpa only [sep_comm, sep_lcomm, sep_assoc] using h16
            have HF := Lib.hid hfin
            clear h14 hfin
            go_wp2_with fail
            go_roundw
            case rel => exact ⟨i + 1, hni, rfl, HF.out⟩
            case measure => simp only [intOf]; omega/-VED-/
    · obtain rfl : i = m := by omega
      clear hi him
      have hmI : ¬ (i : Int) < (i : Int) := by omega
      rw [HM.out] at hS
      obtain ⟨LN, hLN⟩ : ∃ LN, LN = (looseN s.fs (filesD s.fs) keep (filesD s.fs).length).length := ⟨_, rfl⟩
      obtain ⟨vs0, hvs0⟩ : ∃ vs0, vs0 = (looseN s.fs (filesD s.fs) keep (filesD s.fs).length).map (ptrG G) := ⟨_, rfl⟩
      have hLNb : LN ≤ 1073741824 := by rw [hLN]; exact looseN_len HOK.out _ _ _ (filesD_len _)
      rw [HM.out, ← hLN]
      rw [← hLN, ← hvs0] at hS
      obtain ⟨mm, hmm⟩ : ∃ mm, mm = 8 * LN := ⟨_, rfl⟩
      have hmmI : 8 * (LN : Int) = (mm : Int) := by omega
      have HLN := Lib.hid (And.intro hLN (And.intro hvs0 hmm))
      rw [← HM.out]
      clear hLN hvs0
      by_cases hf0 : 0 ≤ flip
      · by_cases hm0 : mm = 0
        · subst hm0
          have hno : ¬ (0 ≤ flip ∧ looseD s keep ≠ []) := fun hc => hc.2 (List.eq_nil_of_length_eq_zero (show (looseN s.fs (filesD s.fs) keep (filesD s.fs).length).length = 0 by rw [← HLN.out.1]; omega))
          have hm0I : ¬ ((0 : Nat) : Int) > 0 := by omega
          clear hmm
          have hok1 : ({ s with fs := (cutD s keep).fs } : DSt).ok := (cutN_ok HOK.out (filesD s.fs) keep (filesD s.fs).length).alike (fs := (cutD s keep).fs) (fun j => ⟨rfl, rfl⟩)
          have hd0 : Sat W wr (sep (isDisk p { s with fs := (cutD s keep).fs }) (sep (kn I) A)) :=
            isDisk_mk (b := b) (f := f) (n := nf) (left := left) hok1 HD.out.1 HD.out.2 (by
              have h5 : Sat W wr (sep (fokA f (cutD s keep).fs) (sep (blk p (.cells (diskC b s left) 62 (0, 0))) (sep (bmap b f nf) (sep (kn KM) A)))) := cr_close (show Sat W wr (sep (fokhA f (cutN s.fs (filesD s.fs) keep (filesD s.fs).length) (holeAt tg (filesD s.fs) (filesD s.fs).length G C)) (sep (holeA (cutN s.fs (filesD s.fs) keep (filesD s.fs).length) (holeAt tg (filesD s.fs) (filesD s.fs).length G C)) (sep (blk p (.cells (diskC b s left) 62 (0, 0))) (sep (bmap b f nf) (sep (kn KM) A))))) by simpa only [sep_comm, sep_lcomm, sep_assoc] using hS.drop)
              have h6 : Sat W wr (sep (kn KM) (sep (fokA f (cutD s keep).fs) (sep (blk p (.cells (diskC b s left) 62 (0, 0))) (sep (bmap b f nf) A)))) := by simpa only [sep_comm, sep_lcomm, sep_assoc] using h5
              have h7 := h6.kn_mono HIK.out
              show Sat W wr (sep (blk p (.cells (diskC b s left) 62 (0, 0))) (sep (bmap b f nf) (sep (fokA f (cutD s keep).fs) (sep (kn I) A))))
              simpa only [sep_comm, sep_lcomm, sep_assoc] using h7)
          have hha := dharden_spec p { s with fs := (cutD s keep).fs } hd0
          have HHA := Lib.hid hha
          have HCR : Hid (crashD s keep flip = { (({ s with fs := (cutD s keep).fs } : DSt).hard) with off := false, plan := none }) := Lib.hid (by rw [crashD, flipL_no hno])
          have HOK1 := Lib.hid hok1
          clear hS hd0 hha hok1 hno
          go_wp2_with fail
          refine HHA.out.mono ?_
          rintro e1 w8 ⟨rfl, h8⟩
          obtain ⟨b2, f2, nf2, left2, -, -, hl2, h9⟩ := isDisk_open h8
          have c2 : w8.cell? ⟨p, 2, none⟩ = some (.bool s.off) := h9.cell 2
          have c3 : w8.cell? ⟨p, 3, none⟩ = some (.bool s.plan.isSome) := h9.cell 3
          have f2z := h9.unfrozen 2
          have f3z := h9.unfrozen 3
          have h10 := (h9.setCell 2 (.bool false)).setCell 3 (.bool false)
          have H10 := Lib.hid h10
          have HL2 := Lib.hid hl2
          clear h8 h9 h10 hl2 HHA
          go_wp2_with fail
          go_end0
          refine ⟨rfl, ?_⟩
          rw [HCR.out]
          have hk1 := HOK1.out.hard
          refine isDisk_mk (b := b2) (f := f2) (n := nf2) (left := left2) ⟨hk1.dur, hk1.hi, hk1.fit, hk1.room, fun q hq => by cases hq⟩ (fun q hq => by cases hq) HL2.out ?_
          exact H10.out
        · have hmp : ((mm : Nat) : Int) > 0 := by omega
          have hne : looseD s keep ≠ [] := fun e => hm0 (by
            have h1 : LN = (looseD s keep).length := HLN.out.1
            rw [e] at h1
            rw [hmm, h1]; rfl)
          obtain ⟨fl, rfl⟩ : ∃ fl : Nat, flip = (fl : Int) := ⟨flip.toNat, by omega⟩
          obtain ⟨at_, hat⟩ : ∃ at_, at_ = fl % mm := ⟨_, rfl⟩
          obtain ⟨ti, hti⟩ : ∃ ti, ti = at_ / 8 := ⟨_, rfl⟩
          obtain ⟨r, hr⟩ : ∃ r, r = at_ % 8 := ⟨_, rfl⟩
          have hrem : (fl : Int).tmod (mm : Int) = (at_ : Int) := by rw [Int.tmod_eq_emod_of_nonneg (by omega), hat]; exact (Int.natCast_emod fl mm).symm
          have hatm : at_ < mm := by rw [hat]; exact Nat.mod_lt _ (by omega)
          have hdI : (at_ : Int).tdiv 8 = (ti : Int) := by rw [Int.tdiv_eq_ediv_of_nonneg (by omega)]; omega
          have hsI : (at_ : Int).tmod 8 = (r : Int) := by rw [Int.tmod_eq_emod_of_nonneg (by omega)]; omega
          have htl : ti < LN := by omega
          have hLD : LN = (looseD s keep).length := HLN.out.1
          obtain ⟨⟨t, j⟩, hx⟩ : ∃ x, (looseD s keep)[ti]? = some x := ⟨_, List.getElem?_eq_getElem (by rw [← hLD]; exact htl)⟩
          have hidx : (fl : Int).toNat % (8 * (looseD s keep).length) / 8 = ti := by rw [Int.toNat_natCast, ← hLD, ← hmm, ← hat, ← hti]
          have hrr : (fl : Int).toNat % (8 * (looseD s keep).length) % 8 = r := by rw [Int.toNat_natCast, ← hLD, ← hmm, ← hat, ← hr]
          have htg : tg = some t := by
            rw [HTG.out, tgt, if_pos ⟨hf0, hne⟩, hidx, hx]; rfl
          obtain ⟨j', hj', hk1, hj1, hj2⟩ := looseN_mem (List.mem_of_getElem? (show (looseN s.fs (filesD s.fs) keep (filesD s.fs).length)[ti]? = some (t, j) from hx))
          have hct : (cutD s keep).fs t = cutF (s.fs t) (keptD (s.fs t) keep j') := cutN_at (filesD_nodup s.fs) hk1 hj'
          have hjl : j < ((cutD s keep).fs t).1.length := by rw [hct, cutF_len _ _ (HOK.out.dur t) (keptD_le _ _ _)]; exact hj2
          have hhole : holeAt tg (filesD s.fs) (filesD s.fs).length G C = some (t, G t, C) := by
            rw [htg]
            show (if t ∈ (filesD s.fs).take (filesD s.fs).length then some (t, G t, C) else none) = _
            rw [List.take_of_length_le (Nat.le_refl _), if_pos (List.mem_of_getElem? hk1)]
          rw [hhole] at hS
          have hS2 : Sat W wr (sep (fokhA f (cutD s keep).fs (some (t, G t, C))) (sep (holeA (cutD s keep).fs (some (t, G t, C))) (sep (osl 68 1 a LN c vs0) (sep (blk p (.cells (diskC b s left) 62 (0, 0))) (sep (bmap b f nf) (sep (kn KM) A)))))) := by
            have : Sat W wr (sep (osl 68 1 a LN c vs0) (sep (blk p (.cells (diskC b s left) 62 (0, 0))) (sep (bmap b f nf) (sep (fokhA f (cutD s keep).fs (some (t, G t, C))) (sep (holeA (cutD s keep).fs (some (t, G t, C))) (sep (kn KM) A)))))) := hS
            simpa only [sep_comm, sep_lcomm, sep_assoc] using this
          obtain ⟨ga, rfl, hgc⟩ := hS.drew.osl_at (fun e => by have := hS.osl_len.1; rw [e] at this; simp at this; omega)
          have hl1 : wr.drew.cell? ⟨ga, ti, none⟩ = some (.pointer (some ⟨G t, j, none⟩)) := hgc ti _ (by rw [HLN.out.2.1, List.getElem?_map, show (looseN s.fs (filesD s.fs) keep (filesD s.fs).length)[ti]? = some (t, j) from hx]; rfl)
          obtain ⟨hb1, hb2, hb3⟩ := cr_flip t (G t) C j hjl hS2.drew
          obtain ⟨x, hxx⟩ : ∃ x, x = ((cutD s keep).fs t).1[j] := ⟨_, rfl⟩
          rw [← hxx] at hb1
          have hfv := flip_val x r
          have hr8 : r < 8 := by omega
          obtain ⟨sh, hsh⟩ : ∃ sh, sh = 7 - r := ⟨_, rfl⟩
          rw [← hsh] at hfv
          have h7 : (7 : Int) - (r : Int) = (sh : Int) := by omega
          have hwm : IntKind.i64.wrap (sh : Int) = (sh : Int) := IntWalk.i64_in _ (by omega)
          have hfin := hb3 (flipB x r)
          have hflip : dset (cutD s keep).fs t (((cutD s keep).fs t).1.set j (flipB x r), ((cutD s keep).fs t).2) = flipL (cutD s keep).fs (looseD s keep) (fl : Int) := by
            rw [flipL_some (n := t) (j := j) hf0 hne (by rw [hidx]; exact hx), hrr, modify_set _ _ hjl, hxx]
          rw [hflip] at hfin
          have HS5 := Lib.hid hfin.p1.drop
          have htlI : (ti : Int) < (LN : Int) := by omega
          have hmm0 : ¬ ((mm : Int) = 0) := by omega
          have hS0 : True := trivial
          have ht0 : (0 : Int) ≤ (ti : Int) := by omega
          have hwt : IntKind.i64.wrap (ti : Int) = (ti : Int) := IntWalk.i64_in _ (by omega)
          obtain ⟨gt, hgt⟩ : ∃ gt, gt = G t := ⟨_, rfl⟩
          rw [← hgt] at hl1 hb1 hb2 HS5
          clear hS hS2 hgc hb3 hfin hflip hxx hjl hct hk1 hj1 hj2 hj' htg hidx hrr hx hhole hLD hat hti hr hsh hm0 hgt htl hatm hne hmm
          go_upto_region 18 with (fail)
          refine wp_region_canon rfl (fun _ => True) [(0, .p), (1, .p), (2, .p), (3, .p), (4, .t), (5, .p), (6, .t), (7, .p), (8, .p), (9, .p), (10, .p), (11, .p), (12, .p), (13, .e false)] (by kernel_rfl) ?_
          (repeat (first | (refine C_p (v := ?_) rfl rfl (fun w' => ?_) ?_; rotate_left; (go_simp; with_reducible rfl); simp only [Act.put, List.setIfInBounds_toArray, List.set_cons_zero, List.set_cons_succ]) | (refine C_s (v := ?_) rfl rfl hS0 (fun w' hS => ?_) ?_; rotate_left; ((try dsimp only at hS); go_simp; with_reducible rfl); simp only [Act.put, List.setIfInBounds_toArray, List.set_cons_zero, List.set_cons_succ]) | (refine C_t (v := ?_) rfl rfl ?_ ?_; rotate_left; (go_simp; with_reducible rfl); simp only [Act.put, List.setIfInBounds_toArray, List.set_cons_zero, List.set_cons_succ]) | (refine C_po rfl rfl ?_; simp only [Act.put, List.setIfInBounds_toArray, List.set_cons_zero, List.set_cons_succ]) | (refine C_so rfl rfl hS0 ?_; simp only [Act.put, List.setIfInBounds_toArray, List.set_cons_zero, List.set_cons_succ]) | (refine C_to rfl rfl ?_; simp only [Act.put, List.setIfInBounds_toArray, List.set_cons_zero, List.set_cons_succ])))
          (refine C_e rfl rfl (fun K hK => ?_); go_simp)
          obtain ⟨w5, hw5⟩ : ∃ w5, w5 = (wr.setCell ⟨gt, j, none⟩ (.int .u8 ((flipB x r).toNat : Nat))).drew := ⟨_, rfl⟩
          have HS5 : Hid (Sat W w5 (sep (fokA f (flipL (cutD s keep).fs (looseD s keep) (fl : Int))) (sep (blk p (.cells (diskC b s left) 62 (0, 0))) (sep (bmap b f nf) (sep (kn KM) A))))) := Lib.hid (by rw [hw5]; exact HS5.out)
          rw [← hw5]
          clear hl1 hb1 hb2 hw5 hfv
          (refine hK _ _ (fun h => by cases h) ?_; clear hK K; (try simp only [Act.put, List.setIfInBounds_toArray, List.set_cons_zero, List.set_cons_succ]))
          refine C_nil ?_
          have hok1 : ({ s with fs := flipL (cutD s keep).fs (looseD s keep) (fl : Int) } : DSt).ok := (cutN_ok HOK.out (filesD s.fs) keep (filesD s.fs).length).alike (fs := flipL (cutD s keep).fs (looseD s keep) (fl : Int)) (fun j => flipL_len _ _ _ j)
          have hd0 : Sat W w5 (sep (isDisk p { s with fs := flipL (cutD s keep).fs (looseD s keep) (fl : Int) }) (sep (kn I) A)) :=
            isDisk_mk (b := b) (f := f) (n := nf) (left := left) hok1 HD.out.1 HD.out.2 (by
              have h5 := HS5.out
              have h6 : Sat W w5 (sep (kn KM) (sep (fokA f (flipL (cutD s keep).fs (looseD s keep) (fl : Int))) (sep (blk p (.cells (diskC b s left) 62 (0, 0))) (sep (bmap b f nf) A)))) := by simpa only [sep_comm, sep_lcomm, sep_assoc] using h5
              have h7 := h6.kn_mono HIK.out
              show Sat W w5 (sep (blk p (.cells (diskC b s left) 62 (0, 0))) (sep (bmap b f nf) (sep (fokA f (flipL (cutD s keep).fs (looseD s keep) (fl : Int))) (sep (kn I) A))))
              simpa only [sep_comm, sep_lcomm, sep_assoc] using h7)
          have hha := dharden_spec p { s with fs := flipL (cutD s keep).fs (looseD s keep) (fl : Int) } hd0
          have HHA := Lib.hid hha
          have HCR : Hid (crashD s keep (fl : Int) = { (({ s with fs := flipL (cutD s keep).fs (looseD s keep) (fl : Int) } : DSt).hard) with off := false, plan := none }) := Lib.hid rfl
          have HOK1 := Lib.hid hok1
          clear hd0 hha hok1
          go_wp2_with fail
          refine HHA.out.mono ?_
          rintro e1 w8 ⟨rfl, h8⟩
          obtain ⟨b2, f2, nf2, left2, -, -, hl2, h9⟩ := isDisk_open h8
          have c2 : w8.cell? ⟨p, 2, none⟩ = some (.bool s.off) := h9.cell 2
          have c3 : w8.cell? ⟨p, 3, none⟩ = some (.bool s.plan.isSome) := h9.cell 3
          have f2z := h9.unfrozen 2
          have f3z := h9.unfrozen 3
          have h10 := (h9.setCell 2 (.bool false)).setCell 3 (.bool false)
          have H10 := Lib.hid h10
          have HL2 := Lib.hid hl2
          clear h8 h9 h10 hl2 HHA
          go_wp2_with fail
          go_end0
          refine ⟨rfl, ?_⟩
          rw [HCR.out]
          have hk1 := HOK1.out.hard
          refine isDisk_mk (b := b2) (f := f2) (n := nf2) (left := left2) ⟨hk1.dur, hk1.hi, hk1.fit, hk1.room, fun q hq => by cases hq⟩ (fun q hq => by cases hq) HL2.out ?_
          exact H10.out
      · have hno : ¬ (0 ≤ flip ∧ looseD s keep ≠ []) := fun hc => hf0 hc.1
        have hf1 : ¬ flip ≥ 0 := hf0
        clear hmm
        have hok1 : ({ s with fs := (cutD s keep).fs } : DSt).ok := (cutN_ok HOK.out (filesD s.fs) keep (filesD s.fs).length).alike (fs := (cutD s keep).fs) (fun j => ⟨rfl, rfl⟩)
        have hd0 : Sat W wr (sep (isDisk p { s with fs := (cutD s keep).fs }) (sep (kn I) A)) :=
          isDisk_mk (b := b) (f := f) (n := nf) (left := left) hok1 HD.out.1 HD.out.2 (by
            have h5 : Sat W wr (sep (fokA f (cutD s keep).fs) (sep (blk p (.cells (diskC b s left) 62 (0, 0))) (sep (bmap b f nf) (sep (kn KM) A)))) := cr_close (show Sat W wr (sep (fokhA f (cutN s.fs (filesD s.fs) keep (filesD s.fs).length) (holeAt tg (filesD s.fs) (filesD s.fs).length G C)) (sep (holeA (cutN s.fs (filesD s.fs) keep (filesD s.fs).length) (holeAt tg (filesD s.fs) (filesD s.fs).length G C)) (sep (blk p (.cells (diskC b s left) 62 (0, 0))) (sep (bmap b f nf) (sep (kn KM) A))))) by simpa only [sep_comm, sep_lcomm, sep_assoc] using hS.drop)
            have h6 : Sat W wr (sep (kn KM) (sep (fokA f (cutD s keep).fs) (sep (blk p (.cells (diskC b s left) 62 (0, 0))) (sep (bmap b f nf) A)))) := by simpa only [sep_comm, sep_lcomm, sep_assoc] using h5
            have h7 := h6.kn_mono HIK.out
            show Sat W wr (sep (blk p (.cells (diskC b s left) 62 (0, 0))) (sep (bmap b f nf) (sep (fokA f (cutD s keep).fs) (sep (kn I) A))))
            simpa only [sep_comm, sep_lcomm, sep_assoc] using h7)
        have hha := dharden_spec p { s with fs := (cutD s keep).fs } hd0
        have HHA := Lib.hid hha
        have HCR : Hid (crashD s keep flip = { (({ s with fs := (cutD s keep).fs } : DSt).hard) with off := false, plan := none }) := Lib.hid (by rw [crashD, flipL_no hno])
        have HOK1 := Lib.hid hok1
        clear hS hd0 hha hok1 hno
        go_wp2_with fail
        refine HHA.out.mono ?_
        rintro e1 w8 ⟨rfl, h8⟩
        obtain ⟨b2, f2, nf2, left2, -, -, hl2, h9⟩ := isDisk_open h8
        have c2 : w8.cell? ⟨p, 2, none⟩ = some (.bool s.off) := h9.cell 2
        have c3 : w8.cell? ⟨p, 3, none⟩ = some (.bool s.plan.isSome) := h9.cell 3
        have f2z := h9.unfrozen 2
        have f3z := h9.unfrozen 3
        have h10 := (h9.setCell 2 (.bool false)).setCell 3 (.bool false)
        have H10 := Lib.hid h10
        have HL2 := Lib.hid hl2
        clear h8 h9 h10 hl2 HHA
        go_wp2_with fail
        go_end0
        refine ⟨rfl, ?_⟩
        rw [HCR.out]
        have hk1 := HOK1.out.hard
        refine isDisk_mk (b := b2) (f := f2) (n := nf2) (left := left2) ⟨hk1.dur, hk1.hi, hk1.fit, hk1.room, fun q hq => by cases hq⟩ (fun q hq => by cases hq) HL2.out ?_
        exact H10.out
end Go.Proofs.YtdaknmcmjnbfeaaGreat
