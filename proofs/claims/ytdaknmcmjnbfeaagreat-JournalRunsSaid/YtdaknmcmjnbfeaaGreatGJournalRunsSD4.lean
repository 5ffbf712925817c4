/- Package disk: harden, Sync. -/
import Derived.Test.YtdaknmcmjnbfeaaGreatGJournalRunsSD3
namespace Go.Proofs.YtdaknmcmjnbfeaaGreat
open Go.RowKit PA
def mixF (lf : Int → Bool) (fs : Nat → File) : Nat → File := fun j => if lf (j : Int) then fs j else ((fs j).1, (fs j).1.length)
theorem mixF_1 (lf : Int → Bool) (fs : Nat → File) (j : Nat) : (mixF lf fs j).1 = (fs j).1 := by unfold mixF; split <;> rfl
theorem FOK.start {I : Mem} {f : Int → Option Value} {fs : Nat → File} (h : FOK I f fs) : FOK I f (mixF (fun k => (f k).isSome) fs) := by
  refine ⟨fun j hj => ?_, fun k hk => ?_⟩
  · rw [mixF_1] at hj
    obtain ⟨a, c, e, hr⟩ := h.1 j hj
    have e2 : mixF (fun k => (f k).isSome) fs j = fs j := by unfold mixF; exact if_pos (by show (f (j : Int)).isSome = true; rw [e]; rfl)
    rw [e2]
    exact ⟨a, c, e, hr⟩
  · obtain ⟨j, hj, hne⟩ := h.2 k hk
    exact ⟨j, hj, by rw [mixF_1]; exact hne⟩
theorem FOK.hard {I : Mem} {f : Int → Option Value} {fs : Nat → File} {lf : Int → Bool} (h : FOK I f (mixF lf fs)) {j : Nat} {a : Option Addr} {l c d : Nat} (hf : f (j : Int) = some (fileV a l c d)) :
    l = (fs j).1.length ∧ FOK I (fset f (j : Int) (some (fileV a l c l))) (mixF (fun z => lf z && z != (j : Int)) fs) := by
  obtain ⟨i, hi, hne⟩ := h.2 j (by rw [hf]; rfl)
  have hij : i = j := by omega
  rw [hij, mixF_1] at hne
  obtain ⟨a', c', e, hr⟩ := h.1 j (by rw [mixF_1]; exact hne)
  rw [hf, mixF_1] at e
  rw [mixF_1] at hr
  have e2 := Option.some.inj e
  unfold fileV at e2
  simp only [Value.agg.injEq, Array.mk.injEq, List.cons.injEq, Value.slice.injEq, Value.int.injEq, true_and, and_true] at e2
  obtain ⟨⟨rfl, rfl, rfl⟩, -⟩ := e2
  refine ⟨rfl, ?_⟩
  have hp := h.put j (a := a) (c := c) (d := (fs j).1.length) hne hr
  have e3 : dset (mixF lf fs) j ((fs j).1, (fs j).1.length) = mixF (fun z => lf z && z != (j : Int)) fs := by
    funext i
    by_cases hij : i = j
    · subst hij; simp [dset, mixF]
    · have : ((i : Int) != (j : Int)) = true := by simp; omega
      simp [dset, mixF, hij, this]
  rw [e3] at hp
  exact hp
theorem rel_take' {I : Mem} {a : Option Addr} {n c : Nat} {l : List UInt8} (k : Nat) (hk : k ≤ n) (hv : rBytes.rel I [.slice a n c] l) : rBytes.rel I [.slice a (l.take k).length c] (l.take k) ∧ (l.take k).length = k := by
  obtain ⟨a', c', e, hw, hc⟩ := bytes_rel.1 hv
  simp only [Value.slice.injEq] at e
  obtain ⟨rfl, rfl, rfl⟩ := e
  have hl : (l.take k).length = k := by rw [List.length_take]; omega
  refine ⟨bytes_rel.2 ⟨a, c, rfl, ⟨by rw [hl]; have := hw.1; omega, hw.2.1, hw.2.2⟩, ?_⟩, hl⟩
  rcases hc with hc | ⟨b', o', cs, t, f, e1, e2, e3⟩
  · left
    have : l = [] := by simpa using hc
    rw [this]; simp
  · right
    refine ⟨b', o', cs, t, f, e1, e2, fun i u hu => e3 i u ?_⟩
    rw [List.map_take, List.getElem?_take] at hu
    split at hu
    · exact hu
    · cases hu
theorem mixF_none {lf : Int → Bool} {fs : Nat → File} (h : ∀ k, lf k = false) : mixF lf fs = fun j => ((fs j).1, (fs j).1.length) := by
  funext j; unfold mixF; rw [h]; rfl
set_option maxRecDepth 100000 in
set_option maxHeartbeats 2000000 in
theorem dharden_spec {W w : World} {A : Assn} (p : Nat) (s : DSt) (h : Sat W w (sep (isDisk p s) A)) :
    Calls Tryz.prog 32 #[.pointer (some ⟨p, 0, none⟩)] w fun e w' => e = .returned (.tuple #[]) ∧ Sat W w' (sep (isDisk p s.hard) A) := by
  obtain ⟨b, f, nf, left, hok, hpl, hl64, h0⟩ := isDisk_open h
  have c0 : w.cell? ⟨p, 0, none⟩ = some (.map (some b)) := h0.cell 0
  obtain ⟨w1, hrun, h1⟩ := run_range_bmap (P := Tryz.prog) Tryz.underlying60 h0.p1
  obtain ⟨r, hr⟩ : ∃ r, r = w.heap.size := ⟨_, rfl⟩
  rw [← hr] at hrun h1
  have h2 : Sat W w1 (sep (rng b r f nf (fun k => (f k).isSome) nf) (sep (blk p (.cells (diskC b s left) 62 (0, 0))) (sep (fokA f (mixF (fun k => (f k).isSome) s.fs)) A))) := by
    have h3 : Sat W w1 (sep (fokA f s.fs) (sep (rng b r f nf (fun k => (f k).isSome) nf) (sep (blk p (.cells (diskC b s left) 62 (0, 0))) A))) := by simpa only [sep_comm, sep_lcomm, sep_assoc] using h1
    have h4 : Sat W w1 (sep (fokA f (mixF (fun k => (f k).isSome) s.fs)) (sep (rng b r f nf (fun k => (f k).isSome) nf) (sep (blk p (.cells (diskC b s left) 62 (0, 0))) A))) := by
      refine h3.wk ?_
      rintro J m ⟨x, y, q1, q2, ⟨q3, q4⟩, q5⟩
      exact ⟨x, y, q1, q2, ⟨q3, q4.start⟩, q5⟩
    simpa only [sep_comm, sep_lcomm, sep_assoc] using h4
  have HOK := Lib.hid hok
  have HPL := Lib.hid hpl
  have HL := Lib.hid hl64
  clear h0 h1 h hok hpl hl64 hr
  go_enter Tryz.func32, Tryz.ntmps32
  go_wp2_with fail
  go_loopw [] (fun wr => ∃ (f : Int → Option Value) (cnt : Nat) (lf : Int → Bool), Sat W wr (sep (rng b r f nf lf cnt) (sep (blk p (.cells (diskC b s left) 62 (0, 0))) (sep (fokA f (mixF lf s.fs)) A)))) (fun wr => wr.rangeLeft b r)
  case atStart => exact ⟨f, nf, _, h2⟩
  case round =>
    clear h2 hrun c0
    obtain ⟨f, cnt, lf, hS⟩ := hrel
    have hfok := hS.p2.pers_heap
    have hcnt := hS.rng_left
    rcases run_next_rng (P := Tryz.prog) 0 hS with ⟨hno, hrun⟩ | ⟨k, v, w2, cnt2, hlk, hfk, hlt, hrun, hen, hS2⟩
    · have HNO := Lib.hid hno
      clear hno hfok hcnt
      go_wp2_with fail
      go_end0
      refine ⟨rfl, isDisk_mk (b := b) (f := f) (n := nf) (left := left) HOK.out.hard HPL.out HL.out ?_⟩
      have h3 := hS.rng_end
      rw [mixF_none HNO.out] at h3
      show Sat W _ (sep (blk p (.cells (diskC b s left) 62 (0, 0))) (sep (bmap b f nf) (sep (fokA f fun j => ((s.fs j).1, (s.fs j).1.length)) A)))
      simpa only [sep_comm, sep_lcomm, sep_assoc] using h3
    · obtain ⟨j, rfl, hne, a, c, rfl, -⟩ := hfok.file hfk
      obtain ⟨l, hl⟩ : ∃ l, l = (mixF lf s.fs j).1.length := ⟨_, rfl⟩
      obtain ⟨d, hd⟩ : ∃ d, d = (mixF lf s.fs j).2 := ⟨_, rfl⟩
      rw [← hl, ← hd] at hfk
      rw [← hl, ← hd] at hrun hen
      unfold fileV at hrun hen
      have h3 := (hS2.alloc (.cells #[.slice a l c, .int .i64 (d : Nat)] 66)).drew
      obtain ⟨q, hq⟩ : ∃ q, q = w2.heap.size := ⟨_, rfl⟩
      obtain ⟨w3, hw3⟩ : ∃ w3, w3 = w2.alloc (.cells #[.slice a l c, .int .i64 (d : Nat)] 66) := ⟨_, rfl⟩
      rw [← hq, ← hw3] at h3
      have c0 : w3.drew.cell? ⟨p, 0, none⟩ = some (.map (some b)) := h3.p2.cell 0
      have q0 : w3.drew.cell? ⟨q, 0, none⟩ = some (.slice a l c) := h3.cell 0
      obtain ⟨w4, hup, h4⟩ := run_update_rng (P := Tryz.prog) Tryz.underlying60 Tryz.underlying3 h3.p1 (j : Int) (fileV a l c l) (by rw [hfk]; rfl)
      unfold fileV at hup
      have h5 : Sat W w4 (sep (rng b r (fset f (j : Int) (some (fileV a l c l))) nf (fun z => lf z && z != (j : Int)) cnt2) (sep (blk p (.cells (diskC b s left) 62 (0, 0))) (sep (fokA (fset f (j : Int) (some (fileV a l c l))) (mixF (fun z => lf z && z != (j : Int)) s.fs)) A))) := by
        have h6 : Sat W w4 (sep (fokA f (mixF lf s.fs)) (sep (rng b r (fset f (j : Int) (some (fileV a l c l))) nf (fun z => lf z && z != (j : Int)) cnt2) (sep (blk p (.cells (diskC b s left) 62 (0, 0))) A))) := by
          have := h4.p1.drop
          simpa only [sep_comm, sep_lcomm, sep_assoc] using this
        have h7 : Sat W w4 (sep (fokA (fset f (j : Int) (some (fileV a l c l))) (mixF (fun z => lf z && z != (j : Int)) s.fs)) (sep (rng b r (fset f (j : Int) (some (fileV a l c l))) nf (fun z => lf z && z != (j : Int)) cnt2) (sep (blk p (.cells (diskC b s left) 62 (0, 0))) A))) := by
          refine h6.wk ?_
          rintro J m ⟨x, y, q1, q2, ⟨q3, q4⟩, q5⟩
          exact ⟨x, y, q1, q2, ⟨q3, (q4.hard hfk).2⟩, q5⟩
        simpa only [sep_comm, sep_lcomm, sep_assoc] using h7
      have HH := Lib.hid (And.intro hlt hcnt)
      have HW3 := Lib.hid (And.intro hq hw3)
      have H5 := Lib.hid h5
      have hS0 : True := trivial
      clear hfok hne hfk hlt hcnt hl hd hlk hS h3 h4 h5 hq hw3
      go_upto_region 3 with (fail)
      rw [← HW3.out.2, ← HW3.out.1]
      refine wp_region_canon rfl (fun _ => True) [(0, .p), (1, .p), (2, .p), (3, .t), (4, .p), (5, .p), (6, .t), (7, .p), (8, .t), (9, .p), (10, .p), (11, .e false)] (by kernel_rfl) ?_
      (repeat (first | (refine C_p (v := ?_) rfl rfl (fun w' => ?_) ?_; rotate_left; (go_simp; with_reducible rfl); simp only [Act.put, List.setIfInBounds_toArray, List.set_cons_zero, List.set_cons_succ]) | (refine C_s (v := ?_) rfl rfl hS0 (fun w' hS => ?_) ?_; rotate_left; ((try dsimp only at hS); go_simp; with_reducible rfl); simp only [Act.put, List.setIfInBounds_toArray, List.set_cons_zero, List.set_cons_succ]) | (refine C_t (v := ?_) rfl rfl ?_ ?_; rotate_left; (go_simp; with_reducible rfl); simp only [Act.put, List.setIfInBounds_toArray, List.set_cons_zero, List.set_cons_succ]) | (refine C_po rfl rfl ?_; simp only [Act.put, List.setIfInBounds_toArray, List.set_cons_zero, List.set_cons_succ]) | (refine C_so rfl rfl hS0 ?_; simp only [Act.put, List.setIfInBounds_toArray, List.set_cons_zero, List.set_cons_succ]) | (refine C_to rfl rfl ?_; simp only [Act.put, List.setIfInBounds_toArray, List.set_cons_zero, List.set_cons_succ])))
      (refine C_e rfl rfl (fun K hK => ?_); go_simp)
      (refine hK _ _ (fun h => by cases h) ?_; clear hK K; (try simp only [Act.put, List.setIfInBounds_toArray, List.set_cons_zero, List.set_cons_succ]))
      (repeat (first | (refine C_p (v := ?_) rfl rfl (fun w' => ?_) ?_; rotate_left; (go_simp; with_reducible rfl); simp only [Act.put, List.setIfInBounds_toArray, List.set_cons_zero, List.set_cons_succ]) | (refine C_s (v := ?_) rfl rfl hS0 (fun w' hS => ?_) ?_; rotate_left; ((try dsimp only at hS); go_simp; with_reducible rfl); simp only [Act.put, List.setIfInBounds_toArray, List.set_cons_zero, List.set_cons_succ]) | (refine C_t (v := ?_) rfl rfl ?_ ?_; rotate_left; (go_simp; with_reducible rfl); simp only [Act.put, List.setIfInBounds_toArray, List.set_cons_zero, List.set_cons_succ]) | (refine C_po rfl rfl ?_; simp only [Act.put, List.setIfInBounds_toArray, List.set_cons_zero, List.set_cons_succ]) | (refine C_so rfl rfl hS0 ?_; simp only [Act.put, List.setIfInBounds_toArray, List.set_cons_zero, List.set_cons_succ]) | (refine C_to rfl rfl ?_; simp only [Act.put, List.setIfInBounds_toArray, List.set_cons_zero, List.set_cons_succ])))
      refine C_nil ?_
      clear hup c0 q0 hrun hen
      go_wp2_with fail
      refine ⟨⟨_, cnt2, _, H5.out⟩, ?_⟩
      rw [H5.out.rng_left, HH.out.2]; exact HH.out.1
set_option maxHeartbeats 1000000 in
theorem dsync_spec {W w : World} {A : Assn} (p : Nat) (s : DSt) (h : Sat W w (sep (isDisk p s) A)) :
    Calls Tryz.prog 25 #[.pointer (some ⟨p, 0, none⟩)] w fun e w' => e = .returned (.int .i64 (syncD s).1) ∧ Sat W w' (sep (isDisk p (syncD s).2) A) := by
  obtain ⟨b, f, nf, left, hok, hpl, hl64, h0⟩ := isDisk_open h
  have c2 : w.cell? ⟨p, 2, none⟩ = some (.bool s.off) := h0.cell 2
  have H := Lib.hid h
  cases hoff : s.off with
  | true =>
    have e : syncD s = (19, s) := by rw [syncD, hoff]; rfl
    rw [e]
    rw [hoff] at c2
    clear h h0 hok hpl hl64 e hoff
    go_enter Tryz.func25, Tryz.ntmps25
    go_wp2_with fail
    go_ret
    exact ⟨rfl, H.out⟩
  | false =>
    have hstep := dstep_spec p s h hoff
    have e : syncD s = if s.step.1 then (0, s.step.2.hard) else (19, s.step.2) := by rw [syncD, hoff]; rfl
    rw [e]
    rw [hoff] at c2
    obtain ⟨t, ht⟩ : ∃ t, t = s.step.1 := ⟨_, rfl⟩
    obtain ⟨s', hs'⟩ : ∃ s', s' = s.step.2 := ⟨_, rfl⟩
    rw [← ht, ← hs'] at hstep ⊢
    have HSTEP := Lib.hid hstep
    clear h h0 hok hpl hl64 e hoff hstep ht hs' H
    go_enter Tryz.func25, Tryz.ntmps25
    go_wp2_with fail
    refine HSTEP.out.mono ?_
    rintro e w2 ⟨rfl, h2⟩
    clear HSTEP
    cases t with
    | false =>
      clear c2
      go_wp2_with fail
      go_ret
      exact ⟨rfl, h2⟩
    | true =>
      clear c2
      go_wp2_with fail
      refine (dharden_spec p s' h2).mono ?_
      rintro e w3 ⟨rfl, h3⟩
      clear h2
      go_wp2_with fail
      go_ret
      exact ⟨rfl, h3⟩
set_option maxRecDepth 100000 in
set_option maxHeartbeats 4000000 in
theorem dtrunc_spec {W w : World} {A : Assn} (p : Nat) (s : DSt) (n size : Int) (h : Sat W w (sep (isDisk p s) A)) :
    Calls Tryz.prog 24 #[.pointer (some ⟨p, 0, none⟩), .int .i64 n, .int .i64 size] w fun e w' => e = .returned (.int .i64 (truncD s n size).1) ∧ Sat W w' (sep (isDisk p (truncD s n size).2) A) := by
  obtain ⟨b, f, nf, left, hok, hpl, hl64, h0⟩ := isDisk_open h
  have c0 : w.cell? ⟨p, 0, none⟩ = some (.map (some b)) := h0.cell 0
  obtain ⟨a0, cc, hlook, hr0⟩ := look_is hok h0.p2 n
  have hsm := file_small hok n
  obtain ⟨bs, hbs⟩ : ∃ bs, bs = (fileAt s.fs n).1 := ⟨_, rfl⟩
  obtain ⟨d, hd⟩ : ∃ d, d = (fileAt s.fs n).2 := ⟨_, rfl⟩
  rw [← hbs] at hlook hr0 hsm
  rw [← hd] at hlook hsm
  have hlk := run_lookup_bmap (P := Tryz.prog) (T := 60) Tryz.underlying60 Tryz.underlying3 zeroFile h0.p1 n false
  rw [hlook] at hlk
  obtain ⟨l, hl⟩ : ∃ l, l = bs.length := ⟨_, rfl⟩
  rw [← hl] at hlk hr0 hsm
  have hlk2 : (Instr.lookup 60 (.map (some b)) (.int .i64 n) false).run Tryz.prog w = .ok (.agg #[.slice a0 l cc, .int .i64 (d : Nat)]) w := hlk
  obtain ⟨I0, hk⟩ := hr0.know
  obtain ⟨I, -, hr, hr1⟩ := hk.p1.learn
  have h2 : Sat W w (sep (isDisk p s) (sep (kn I) A)) :=
    isDisk_mk (b := b) (f := f) (n := nf) (left := left) hok hpl hl64 (by simpa only [sep_comm, sep_lcomm, sep_assoc] using hr1)
  have h1 := h2.alloc (.cells #[.slice a0 l cc, .int .i64 (d : Nat)] 66)
  obtain ⟨q, hq⟩ : ∃ q, q = w.heap.size := ⟨_, rfl⟩
  obtain ⟨w1, hw1⟩ : ∃ w1, w1 = w.alloc (.cells #[.slice a0 l cc, .int .i64 (d : Nat)] 66) := ⟨_, rfl⟩
  rw [← hq, ← hw1] at h1
  have hcc : l ≤ cc ∧ cc ≤ 9223372036854775807 := by
    obtain ⟨a', c', e, hw, -⟩ := bytes_rel.1 hr
    simp only [Value.slice.injEq] at e
    obtain ⟨-, h1, rfl⟩ := e
    exact ⟨by rw [h1]; exact hw.1, hw.2.1⟩
  have q0 : w1.cell? ⟨q, 0, none⟩ = some (.slice a0 l cc) := h1.cell 0
  have q1 : w1.cell? ⟨q, 1, none⟩ = some (.int .i64 (d : Nat)) := h1.cell 1
  have hex := dexists_spec n w1
  have HW := Lib.hid (And.intro hq hw1)
  have HBS := Lib.hid (And.intro hbs (And.intro hd hl))
  have HSM := Lib.hid hsm
  have HOK := Lib.hid hok
  have HR := Lib.hid hr
  have c2 : w1.cell? ⟨p, 2, none⟩ = some (.bool s.off) := by
    obtain ⟨b, f, nf, left, -, -, -, h3⟩ := isDisk_open h1.p1
    exact h3.cell 2
  have HD := Lib.hid h1
  have HDk : Hid (Sat W w1 (sep (isDisk p s) A)) := Lib.hid (by have := h1.drop; exact (show Sat W w1 (sep (kn I) (sep (isDisk p s) A)) from this.p1).drop)
  have ht1 : (n < 0 ∨ 64 ≤ n ∨ size < 0 ∨ (l : Int) < size) → truncD s n size = (1, s) := fun hc => by
    rw [truncD, if_pos (by rw [← hbs, ← hl]; exact hc)]
  have ht2 : ¬ (n < 0 ∨ 64 ≤ n ∨ size < 0 ∨ (l : Int) < size) → truncD s n size = if s.off then (19, s) else if s.step.1 then (0, s.step.2.put n.toNat ((s.fs n.toNat).1.take size.toNat, min (s.fs n.toNat).2 size.toNat)) else (19, s.step.2) := fun hc => by
    rw [truncD, if_neg (by rw [← hbs, ← hl]; exact hc)]
  have HT1 := Lib.hid ht1
  have HT2 := Lib.hid ht2
  clear h0 hpl hl64 hlook hlk hq hw1 hbs hd hl hsm hok hr0 hk hr hr1 h2 h1 h ht1 ht2
  by_cases hn : 0 ≤ n ∧ n < 64
  · rw [decide_eq_true hn] at hex
    have HEX := Lib.hid hex
    by_cases hs1 : size < 0
    · have HT := Lib.hid (HT1.out (.inr (.inr (.inl hs1))))
      clear hex
      go_enter Tryz.func24, Tryz.ntmps24
      go_upto_region 2 with (fail)
      rw [← HW.out.1, ← HW.out.2]
      go_wp2_with fail
      refine HEX.out.mono ?_
      rintro e w' ⟨rfl, rfl⟩
      clear c0 hlk2 HW HEX
      go_wp2_with fail
      go_ret
      rw [HT.out]
      exact ⟨rfl, HDk.out⟩
    · obtain ⟨k, rfl⟩ : ∃ k : Nat, size = (k : Int) := ⟨size.toNat, by omega⟩
      by_cases hs2 : l < k
      · have HT := Lib.hid (HT1.out (.inr (.inr (.inr (by omega)))))
        have g2 : (l : Int) < (k : Int) := by omega
        clear hex
        go_enter Tryz.func24, Tryz.ntmps24
        go_upto_region 2 with (fail)
        rw [← HW.out.1, ← HW.out.2]
        go_wp2_with fail
        refine HEX.out.mono ?_
        rintro e w' ⟨rfl, rfl⟩
        clear c0 hlk2 HW HEX
        go_wp2_with fail
        go_ret
        rw [HT.out]
        exact ⟨rfl, HDk.out⟩
      · have g2 : ¬ (l : Int) < (k : Int) := by omega
        have HT := Lib.hid (HT2.out (by omega))
        obtain ⟨j, rfl⟩ : ∃ j : Nat, n = (j : Int) := ⟨n.toNat, by omega⟩
        clear hex hs1
        cases hoff : s.off with
        | true =>
          rw [hoff] at c2
          have HO := Lib.hid hoff
          clear hoff
          go_enter Tryz.func24, Tryz.ntmps24
          go_upto_region 2 with (fail)
          rw [← HW.out.1, ← HW.out.2]
          go_wp2_with fail
          refine HEX.out.mono ?_
          rintro e w' ⟨rfl, rfl⟩
          clear c0 hlk2 HW HEX
          go_wp2_with fail
          go_ret
          rw [HT.out, HO.out]
          exact ⟨rfl, HDk.out⟩
        | false =>
          rw [hoff] at c2
          have hstep := dstep_spec p s HD.out.p1 hoff
          have HO := Lib.hid hoff
          have HST := Lib.hid hstep
          clear hoff hstep
          go_enter Tryz.func24, Tryz.ntmps24
          go_upto_region 2 with (fail)
          rw [← HW.out.1, ← HW.out.2]
          go_wp2_with fail
          refine HEX.out.mono ?_
          rintro e w' ⟨rfl, rfl⟩
          clear c0 hlk2 HW HEX
          go_wp2_with fail
          refine HST.out.mono ?_
          rintro e w2 ⟨rfl, h2⟩
          obtain ⟨t, ht⟩ : ∃ t, t = s.step.1 := ⟨_, rfl⟩
          rw [← ht]
          have HTT := Lib.hid ht
          clear HST ht
          cases t with
          | false =>
            clear c2 q0 q1
            go_wp2_with fail
            go_ret
            rw [HT.out, HO.out, ← HTT.out]
            have := h2.drop.drop.drop
            exact ⟨rfl, by have h3 : Sat W w2 (sep (kn I) (sep (isDisk p s.step.2) A)) := by (have := h2.p1.drop; simpa only [sep_comm, sep_lcomm, sep_assoc] using this)
                           exact h3.drop⟩
          | true =>
            have q0 : w2.drew.cell? ⟨q, 0, none⟩ = some (.slice a0 l cc) := h2.p1.drew.cell 0
            have q1 : w2.drew.cell? ⟨q, 1, none⟩ = some (.int .i64 (d : Nat)) := h2.p1.drew.cell 1
            have hS0 : True := trivial
            obtain ⟨mn, hmn⟩ : ∃ mn, mn = min d k := ⟨_, rfl⟩
            have hmin : (if (k : Int) < (d : Int) then (k : Int) else (d : Int)) = (mn : Int) := by split <;> omega
            have hkc : (k : Int) ≤ (cc : Int) := by omega
            have hk0 : (0 : Int) ≤ (k : Int) := by omega
            have HMN := Lib.hid hmn
            have HG2 := Lib.hid g2
            clear c2 hmn g2
            go_wp2_with fail
            refine wp_region_canon rfl (fun _ => True) [(0, .p), (1, .p), (2, .p), (3, .t), (4, .p), (5, .p), (6, .p), (7, .t), (8, .p), (9, .p), (10, .p), (11, .e false)] (by kernel_rfl) ?_
            (repeat (first | (refine C_p (v := ?_) rfl rfl (fun w' => ?_) ?_; rotate_left; (go_simp; with_reducible rfl); simp only [Act.put, List.setIfInBounds_toArray, List.set_cons_zero, List.set_cons_succ]) | (refine C_s (v := ?_) rfl rfl hS0 (fun w' hS => ?_) ?_; rotate_left; ((try dsimp only at hS); go_simp; with_reducible rfl); simp only [Act.put, List.setIfInBounds_toArray, List.set_cons_zero, List.set_cons_succ]) | (refine C_t (v := ?_) rfl rfl ?_ ?_; rotate_left; (go_simp; with_reducible rfl); simp only [Act.put, List.setIfInBounds_toArray, List.set_cons_zero, List.set_cons_succ]) | (refine C_po rfl rfl ?_; simp only [Act.put, List.setIfInBounds_toArray, List.set_cons_zero, List.set_cons_succ]) | (refine C_so rfl rfl hS0 ?_; simp only [Act.put, List.setIfInBounds_toArray, List.set_cons_zero, List.set_cons_succ]) | (refine C_to rfl rfl ?_; simp only [Act.put, List.setIfInBounds_toArray, List.set_cons_zero, List.set_cons_succ])))
            (refine C_e rfl rfl (fun K hK => ?_); go_simp)
            have hm2 : (if k < d then (k : Int) else (d : Int)) = (mn : Int) := by have := HMN.out; split <;> omega
            rw [hm2]
            have hkl : k ≤ l := by have := HG2.out; omega
            obtain ⟨hrt, hlt⟩ := rel_take' k hkl HR.out
            have hfs := s.step_fs
            have efa : fileAt s.fs (j : Int) = s.fs j := by rw [fileAt, if_pos (by omega)]; rfl
            have hokp : (s.step.2.put j (bs.take k, mn)).ok := by
              refine HOK.out.step.put (by omega) (by show mn ≤ (bs.take k).length; rw [hlt]; have := HMN.out; omega) ?_
              show usedF s.step.2.fs + (bs.take k).length ≤ s.step.2.room + (s.step.2.fs j).1.length
              rw [hfs.1, hfs.2, hlt]
              have h1 := HOK.out.fit
              have h2 := HBS.out
              rw [efa] at h2
              rw [← h2.1, ← h2.2.2]
              unfold DSt.used at h1
              omega
            have hset := dset_spec (I := I) (A := sep (blk q (.cells #[.slice a0 l cc, .int .i64 (d : Nat)] 66 (0, 0))) A) p s.step.2 j a0 cc mn (bs.take k) (by have := h2.drew; simpa only [sep_comm, sep_lcomm, sep_assoc] using this) hrt hokp
            rw [hlt] at hset
            refine hset.mono ?_
            rintro e w3 ⟨rfl, h3⟩
            have h4 : Sat W w3 (sep (isDisk p (s.step.2.put j (bs.take k, mn))) A) := by
              have h5 : Sat W w3 (sep (kn I) (sep (blk q (.cells #[.slice a0 l cc, .int .i64 (d : Nat)] 66 (0, 0))) (sep (isDisk p (s.step.2.put j (bs.take k, mn))) A))) := by simpa only [sep_comm, sep_lcomm, sep_assoc] using h3
              exact h5.drop.drop
            have hfin : truncD s (j : Int) (k : Int) = (0, s.step.2.put j (bs.take k, mn)) := by
              have h1 := HBS.out
              rw [efa] at h1
              rw [HT.out, HO.out, ← HTT.out]
              simp only [Bool.false_eq_true, if_false, if_true, Int.toNat_natCast]
              rw [← h1.1, ← h1.2.1, HMN.out]
            have HFIN := Lib.hid hfin
            have H4 := Lib.hid h4
            clear hset h2 h3 h4 hfin hokp hrt hlt hfs efa hm2 q0 q1
            (refine hK _ _ (fun h => by cases h) ?_; clear hK K; (try simp only [Act.put, List.setIfInBounds_toArray, List.set_cons_zero, List.set_cons_succ]))
            (repeat (first | (refine C_p (v := ?_) rfl rfl (fun w' => ?_) ?_; rotate_left; (go_simp; with_reducible rfl); simp only [Act.put, List.setIfInBounds_toArray, List.set_cons_zero, List.set_cons_succ]) | (refine C_s (v := ?_) rfl rfl hS0 (fun w' hS => ?_) ?_; rotate_left; ((try dsimp only at hS); go_simp; with_reducible rfl); simp only [Act.put, List.setIfInBounds_toArray, List.set_cons_zero, List.set_cons_succ]) | (refine C_t (v := ?_) rfl rfl ?_ ?_; rotate_left; (go_simp; with_reducible rfl); simp only [Act.put, List.setIfInBounds_toArray, List.set_cons_zero, List.set_cons_succ]) | (refine C_po rfl rfl ?_; simp only [Act.put, List.setIfInBounds_toArray, List.set_cons_zero, List.set_cons_succ]) | (refine C_so rfl rfl hS0 ?_; simp only [Act.put, List.setIfInBounds_toArray, List.set_cons_zero, List.set_cons_succ]) | (refine C_to rfl rfl ?_; simp only [Act.put, List.setIfInBounds_toArray, List.set_cons_zero, List.set_cons_succ])))
            refine C_nil ?_
            go_wp2_with fail
            go_ret
            rw [HFIN.out]
            exact ⟨rfl, H4.out⟩
  · have HT := Lib.hid (HT1.out (by omega))
    rw [decide_eq_false hn] at hex
    have HEX := Lib.hid hex
    clear hex
    go_enter Tryz.func24, Tryz.ntmps24
    go_upto_region 2 with (fail)
    rw [← HW.out.1, ← HW.out.2]
    go_wp2_with fail
    refine HEX.out.mono ?_
    rintro e w' ⟨rfl, rfl⟩
    clear c0 hlk2 HW HEX
    go_wp2_with fail
    go_ret
    rw [HT.out]
    exact ⟨rfl, HDk.out⟩
end Go.Proofs.YtdaknmcmjnbfeaaGreat
