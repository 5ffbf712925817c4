/- Package disk: Append. -/
import Derived.Test.YtdaknmcmjnbfeaaGreatGJournalRuns9
namespace Go.Proofs.YtdaknmcmjnbfeaaGreat
open Go.RowKit PA
theorem infoU8d : (Tryz.prog.info? 5).map (fun i => (i.zero, i.size, i.bytes)) = some (some (.int .u8 0), 1, 1) := by kernel_rfl
theorem slice_f {I : Mem} {v : Value} {l : List UInt8} (h : rBytes.rel I [v] l) : ∃ a c, v = .slice a l.length c ∧ Swf a l.length c := by
  obtain ⟨a, c, e, hw, -⟩ := bytes_rel.1 h
  exact ⟨a, c, e, hw⟩
/-- What a look-up hands out. -/
theorem look_mem {I : Mem} {s : DSt} {f : Int → Option Value} (hok : s.ok) (hfok : FOK I f s.fs) (n : Int) :
    ∃ a c, (f n).getD (.agg #[.slice none 0 0, .int .i64 0]) = .agg #[.slice a (fileAt s.fs n).1.length c, .int .i64 ((fileAt s.fs n).2 : Nat)] ∧ rBytes.rel I [.slice a (fileAt s.fs n).1.length c] (fileAt s.fs n).1 := by
  by_cases hne : (fileAt s.fs n).1 = []
  · have hnone : f n = none := by
      cases hf : f n with
      | none => rfl
      | some v =>
        obtain ⟨i, rfl, hne2⟩ := hfok.2 n (by rw [hf]; rfl)
        rw [fileAt, if_pos (by omega)] at hne
        exact absurd hne hne2
    have hz : fileAt s.fs n = ([], 0) := by
      unfold fileAt at hne ⊢
      split
      · rename_i h; rw [if_pos h] at hne; exact hok.nil hne
      · rfl
    rw [hnone, hz]
    exact ⟨none, 0, rfl, bytes_rel.2 ⟨none, 0, rfl, ⟨Nat.le_refl _, Nat.zero_le _, fun _ => rfl⟩, .inl rfl⟩⟩
  · have h0 : 0 ≤ n := by
      by_cases h : 0 ≤ n
      · exact h
      · exact absurd (by rw [fileAt, if_neg h]) hne
    obtain ⟨j, rfl⟩ : ∃ j : Nat, n = (j : Int) := ⟨n.toNat, by omega⟩
    have e : fileAt s.fs (j : Int) = s.fs j := by rw [fileAt, if_pos h0]; rfl
    rw [e] at hne ⊢
    obtain ⟨a, c, e, hr⟩ := hfok.1 j hne
    exact ⟨a, c, by rw [e]; rfl, hr⟩
theorem look_file {w : World} {s : DSt} {f : Int → Option Value} (hok : s.ok) (hfok : FOK (fun b => w.heap[b]?) f s.fs) (n : Int) :
    ∃ a c, (f n).getD (.agg #[.slice none 0 0, .int .i64 0]) = .agg #[.slice a (fileAt s.fs n).1.length c, .int .i64 ((fileAt s.fs n).2 : Nat)] ∧ rBytes.rel (fun b => w.heap[b]?) [.slice a (fileAt s.fs n).1.length c] (fileAt s.fs n).1 := look_mem hok hfok n
/-- The same, as a part that stands. -/
theorem look_is {W w : World} {A : Assn} {s : DSt} {f : Int → Option Value} (hok : s.ok) (h : Sat W w (sep (fokA f s.fs) A)) (n : Int) :
    ∃ a c, (f n).getD (.agg #[.slice none 0 0, .int .i64 0]) = .agg #[.slice a (fileAt s.fs n).1.length c, .int .i64 ((fileAt s.fs n).2 : Nat)] ∧ Sat W w (sep (rBytes.is [.slice a (fileAt s.fs n).1.length c] (fileAt s.fs n).1) (sep (fokA f s.fs) A)) := by
  obtain ⟨a, c, e, -⟩ := look_mem hok h.pers_heap n
  refine ⟨a, c, e, h.dup.wk ?_⟩
  rintro I m ⟨x, y, h1, h2, ⟨h3, h4⟩, h5⟩
  refine ⟨x, y, h1, h2, ⟨h3, ?_⟩, h5⟩
  obtain ⟨a', c', e', hr⟩ := look_mem hok h4 n
  rw [e] at e'
  simp only [Value.agg.injEq, Array.mk.injEq, List.cons.injEq, Value.slice.injEq, true_and, and_true] at e'
  obtain ⟨rfl, rfl⟩ := e'
  exact hr
theorem file_small {s : DSt} (hok : s.ok) (n : Int) : (fileAt s.fs n).1.length ≤ 16777216 ∧ (fileAt s.fs n).2 ≤ (fileAt s.fs n).1.length := by
  unfold fileAt
  split
  · refine ⟨?_, hok.dur _⟩
    rcases Nat.lt_or_ge n.toNat 64 with h | h
    · have h1 := used_ge (fs := s.fs) h
      have h2 := hok.fit
      have h3 := hok.room
      unfold DSt.used at h2
      omega
    · rw [hok.hi _ h]; simp
  · simp
set_option maxRecDepth 100000 in
set_option maxHeartbeats 4000000 in
theorem dappend_spec {W w : World} {A : Assn} {I : Mem} (p : Nat) (s : DSt) (n : Int) (v : Value) (x : List UInt8) (h : Sat W w (sep (isDisk p s) (sep (kn I) A))) (hv : rBytes.rel I [v] x) (hx : x.length ≤ 1000000) :
    Calls Tryz.prog 35 #[.pointer (some ⟨p, 0, none⟩), .int .i64 n, v] w fun e w' => e = .returned (.int .i64 (appendD s n x).1) ∧ Sat W w' (sep (isDisk p (appendD s n x).2) (sep (kn I) A)) := by
  obtain ⟨b, f, nf, left, hok, hpl, hl64, h0⟩ := isDisk_open h
  obtain ⟨va, vc, rfl, -⟩ := slice_f hv
  have c2 : w.cell? ⟨p, 2, none⟩ = some (.bool s.off) := h0.cell 2
  have hex := dexists_spec n w
  obtain ⟨xl, hxl⟩ : ∃ xl, xl = x.length := ⟨_, rfl⟩
  rw [← hxl] at hv hx ⊢
  by_cases hn : 0 ≤ n ∧ n < 64
  · have hn' : ¬ (n < 0 ∨ 64 ≤ n) := by omega
    rw [decide_eq_true hn] at hex
    have HEX := Lib.hid hex
    cases hoff : s.off with
    | true =>
      have e : appendD s n x = (19, s) := by rw [appendD, if_neg hn', hoff]; rfl
      rw [e]
      rw [hoff] at c2
      have H := Lib.hid h
      clear hex hn hn' e hoff h h0 hok hpl hl64 hv hxl
      go_enter Tryz.func35, Tryz.ntmps35
      go_wp2_with fail
      refine HEX.out.mono ?_
      rintro e w' ⟨rfl, rfl⟩
      go_wp2_with fail
      go_ret
      exact ⟨rfl, H.out⟩
    | false =>
      obtain ⟨j, rfl⟩ : ∃ j : Nat, n = (j : Int) := ⟨n.toNat, by omega⟩
      have hused := dused_spec p s h.drew
      have hS0 : w.drew.cell? ⟨p, 1, none⟩ = some (.int .i64 (s.room : Nat)) := h0.cell 1
      rw [hoff] at c2
      obtain ⟨u, hu⟩ : ∃ u, u = s.used := ⟨_, rfl⟩
      rw [← hu] at hused
      have hru := hok.room
      have hfit := hok.fit
      rw [← hu] at hfit
      obtain ⟨rm, hrm⟩ : ∃ rm, rm = s.room := ⟨_, rfl⟩
      rw [← hrm] at hS0 hru hfit
      have hmI : (rm : Int) - (u : Int) = ((rm - u : Nat) : Int) := by omega
      obtain ⟨m, hm⟩ : ∃ m, m = rm - u := ⟨_, rfl⟩
      rw [← hm] at hmI
      have hwm : IntKind.i64.wrap (m : Int) = (m : Int) := IntWalk.i64_in _ (by omega)
      have HUSED := Lib.hid hused
      have HH := Lib.hid (And.intro hu (And.intro hrm hm))
      have HOK := Lib.hid hok
      have HV := Lib.hid hv
      have HXL := Lib.hid hxl
      have HN := Lib.hid hn
      have HOFF := Lib.hid hoff
      clear hex hn hoff h h0 hok hpl hl64 hv hxl hused hu hrm hm
      go_enter Tryz.func35, Tryz.ntmps35
      go_wp2_with fail
      refine HEX.out.mono ?_
      rintro e w' ⟨rfl, rfl⟩
      clear HEX
      go_wp2_with fail
      refine wp_region_canon rfl (fun w' => w'.cell? ⟨p, 1, none⟩ = some (.int .i64 (rm : Nat))) [(0, .p), (1, .p), (2, .p), (3, .p), (4, .p), (5, .s), (6, .p), (7, .e true), (8, .p), (9, .p), (10, .p)] (by kernel_rfl) ?_
      (repeat (first | (refine C_p (v := ?_) rfl rfl (fun w' => ?_) ?_; rotate_left; (go_simp; with_reducible rfl); simp only [Act.put, List.setIfInBounds_toArray, List.set_cons_zero, List.set_cons_succ]) | (refine C_s (v := ?_) rfl rfl hS0 (fun w' hS => ?_) ?_; rotate_left; ((try dsimp only at hS); go_simp; with_reducible rfl); simp only [Act.put, List.setIfInBounds_toArray, List.set_cons_zero, List.set_cons_succ]) | (refine C_t (v := ?_) rfl rfl ?_ ?_; rotate_left; (go_simp; with_reducible rfl); simp only [Act.put, List.setIfInBounds_toArray, List.set_cons_zero, List.set_cons_succ]) | (refine C_po rfl rfl ?_; simp only [Act.put, List.setIfInBounds_toArray, List.set_cons_zero, List.set_cons_succ]) | (refine C_so rfl rfl hS0 ?_; simp only [Act.put, List.setIfInBounds_toArray, List.set_cons_zero, List.set_cons_succ]) | (refine C_to rfl rfl ?_; simp only [Act.put, List.setIfInBounds_toArray, List.set_cons_zero, List.set_cons_succ])))
      (refine C_e rfl rfl (fun K hK => ?_); go_simp)
      refine HUSED.out.mono ?_
      rintro e w2 ⟨rfl, h1⟩
      clear HUSED c2 hS0
      have hS0 : w2.cell? ⟨p, 1, none⟩ = some (.int .i64 (rm : Nat)) := by
        obtain ⟨b, f, nf, left, -, -, -, h3⟩ := isDisk_open h1
        rw [HH.out.2.1]
        exact h3.cell 1
      (refine hK _ _ (fun _ => hS0) ?_; clear hK K; (try simp only [Act.put, List.setIfInBounds_toArray, List.set_cons_zero, List.set_cons_succ]))
      (repeat (first | (refine C_p (v := ?_) rfl rfl (fun w' => ?_) ?_; rotate_left; (go_simp; with_reducible rfl); simp only [Act.put, List.setIfInBounds_toArray, List.set_cons_zero, List.set_cons_succ]) | (refine C_s (v := ?_) rfl rfl hS0 (fun w' hS => ?_) ?_; rotate_left; ((try dsimp only at hS); go_simp; with_reducible rfl); simp only [Act.put, List.setIfInBounds_toArray, List.set_cons_zero, List.set_cons_succ]) | (refine C_t (v := ?_) rfl rfl ?_ ?_; rotate_left; (go_simp; with_reducible rfl); simp only [Act.put, List.setIfInBounds_toArray, List.set_cons_zero, List.set_cons_succ]) | (refine C_po rfl rfl ?_; simp only [Act.put, List.setIfInBounds_toArray, List.set_cons_zero, List.set_cons_succ]) | (refine C_so rfl rfl hS0 ?_; simp only [Act.put, List.setIfInBounds_toArray, List.set_cons_zero, List.set_cons_succ]) | (refine C_to rfl rfl ?_; simp only [Act.put, List.setIfInBounds_toArray, List.set_cons_zero, List.set_cons_succ])))
      refine C_nil ?_
      by_cases hfull : m < xl
      · have g1 : (m : Int) < (xl : Int) := by omega
        have e : appendD s (j : Int) x = (18, s) := by
          have := HH.out
          rw [appendD, if_neg hn', HOFF.out, ← this.1, ← this.2.1, ← HXL.out]
          simp only [Bool.false_eq_true, if_false]
          rw [if_pos (by omega)]
        have HE := Lib.hid e
        clear e hn' hfull
        go_wp2_with fail
        go_ret
        rw [HE.out]
        exact ⟨rfl, h1⟩
      · have g1 : ¬ (m : Int) < (xl : Int) := by omega
        have e : appendD s (j : Int) x = (if (s.app j x).step.1 then 0 else 19, (s.app j x).step.2) := by
          have := HH.out
          rw [appendD, if_neg hn', HOFF.out, ← this.1, ← this.2.1, ← HXL.out]
          simp only [Bool.false_eq_true, if_false]
          rw [if_neg (by omega)]
          rfl
        have HE := Lib.hid e
        have hfits : s.used + x.length ≤ s.room := by have := HH.out; rw [← this.1, ← this.2.1, ← HXL.out]; omega
        clear e hn' hS0
        obtain ⟨b, f, nf, left, -, hpl, hl64, h0⟩ := isDisk_open h1
        obtain ⟨a0, cc, hlook, hr⟩ := look_file HOK.out h0.p2.pers_heap (j : Int)
        have efa : fileAt s.fs (j : Int) = s.fs j := by rw [fileAt, if_pos (by omega)]; rfl
        have hsm := file_small HOK.out (j : Int)
        rw [efa] at hlook hr hsm
        obtain ⟨bs, hbs⟩ : ∃ bs, bs = (s.fs j).1 := ⟨_, rfl⟩
        obtain ⟨d, hd⟩ : ∃ d, d = (s.fs j).2 := ⟨_, rfl⟩
        rw [← hbs] at hlook hr hsm
        rw [← hd] at hlook hsm
        have c0 : w2.cell? ⟨p, 0, none⟩ = some (.map (some b)) := h0.cell 0
        have hlk := run_lookup_bmap (P := Tryz.prog) (T := 60) Tryz.underlying60 Tryz.underlying3 zeroFile h0.p1 (j : Int) false
        rw [hlook] at hlk
        obtain ⟨l, hl⟩ : ∃ l, l = bs.length := ⟨_, rfl⟩
        rw [← hl] at hlk hr hsm
        have hlk2 : (Instr.lookup 60 (.map (some b)) (.int .i64 (j : Int)) false).run Tryz.prog w2 = .ok (.agg #[.slice a0 l cc, .int .i64 (d : Nat)]) w2 := hlk
        have HR := Lib.hid hr
        have HSM := Lib.hid hsm
        have HBS := Lib.hid (And.intro hbs (And.intro hd hl))
        have HFIT := Lib.hid hfits
        clear h0 hlk hlook hpl hl64 efa hr hsm hbs hd hl hfits hfull
        go_upto_region 8 with (fail)
        have h3 := h1.alloc (.cells #[.slice a0 l cc, .int .i64 (d : Nat)] 66)
        obtain ⟨q, hq⟩ : ∃ q, q = w2.heap.size := ⟨_, rfl⟩
        obtain ⟨w3, hw3⟩ : ∃ w3, w3 = w2.alloc (.cells #[.slice a0 l cc, .int .i64 (d : Nat)] 66) := ⟨_, rfl⟩
        have hx3 : Ext (fun b => w2.heap[b]?) w3 := fun b o hb => by
          rw [hw3]; exact (Below.heap_alloc w2 _ b (Array.getElem?_eq_some_iff.1 hb).1).trans hb
        obtain ⟨hr1, hr2, hr3⟩ := rel_src' HR.out
        have hsrc := hr3 w3 hx3
        rw [← hq, ← hw3] at h3 ⊢
        have k0 : w3.cell? ⟨q, 0, none⟩ = some (.slice a0 l cc) := h3.cell 0
        have hcl := clone_any a0 l cc (bs.map bv) h3 hsrc (by rw [List.length_map]; exact hr1) hr2 (bv_one bs) (by have := HSM.out; omega)
        have HCL := Lib.hid hcl
        clear h1 h3 hq hw3 hx3 hr1 hr2 hr3 hsrc hcl hlk2 c0 HR
        go_wp2_with fail
        refine HCL.out.mono ?_
        rintro e w4 ⟨a4, c4, rfl, h4⟩
        obtain ⟨-, hvs, hv3⟩ := rel_src' HV.out
        have hsrc := hv3 w4 h4.p3.ext
        have hn0 : va = none → xl = 0 := fun e => by have := hvs.2.2 e; have := hvs.1; omega
        have HS := Lib.hid hsrc
        have HN0 := Lib.hid hn0
        have hll : l ≤ 16777216 := HSM.out.1
        clear HCL k0 hvs hv3 hsrc hn0
        go_wp2_with (at_builtin; refine wpl_append_osl rfl (.tmp 36) (.tmp 37) 39 rfl 5 1 1 (.int .u8 0) Tryz.underlying39 infoU8d rfl rfl h4 rfl (x.map bv) (by rw [List.length_map, HXL.out]; simp) HN0.out HS.out (bv_one x) (by omega) (by unfold maxLen; omega) ?_)
        intro a5 c5 w5 h5
        rw [← List.map_append] at h5
        obtain ⟨J, hJ, hb5, h6⟩ := (show Sat W w5 (sep (rBytes.is [.slice a5 (l + xl) c5] (bs ++ x)) (sep (kn I) (sep (blk q (.cells #[.slice a0 l cc, .int .i64 (d : Nat)] 66 (0, 0))) (sep (isDisk p s) A)))) by
          have := h5.bytes_of_osl.2
          simpa only [sep_comm, sep_lcomm, sep_assoc] using this).learn
        have k0 : w5.cell? ⟨q, 0, none⟩ = some (.slice a0 l cc) := h6.p1.cell 0
        have k1 : w5.cell? ⟨q, 1, none⟩ = some (.int .i64 (d : Nat)) := h6.p1.cell 1
        have kf := h6.p1.unfrozen 0
        have h7 := h6.p1.setCell 0 (.slice a5 (l + xl) c5)
        have m0 : (w5.setCell ⟨q, 0, none⟩ (.slice a5 (l + xl) c5)).cell? ⟨q, 0, none⟩ = some (.slice a5 (l + xl) c5) := h7.cell 0
        have m1 : (w5.setCell ⟨q, 0, none⟩ (.slice a5 (l + xl) c5)).cell? ⟨q, 1, none⟩ = some (.int .i64 (d : Nat)) := h7.cell 1
        obtain ⟨nl, hnl⟩ : ∃ nl, nl = l + xl := ⟨_, rfl⟩
        have hnl2 : nl = (bs ++ x).length := by rw [hnl, List.length_append, ← HBS.out.2.2, ← HXL.out]
        rw [← hnl] at hb5 h7 m0 m1
        rw [← hnl]
        have h8 : Sat W _ (sep (isDisk p s) (sep (kn J) A)) := h7.drop.p1
        have hokp : (s.put j (bs ++ x, d)).ok := by
          have h1 := HBS.out
          refine HOK.out.put (by have := HN.out; omega) (by show d ≤ (bs ++ x).length; rw [← hnl2]; have := HSM.out; omega) ?_
          show s.used + (bs ++ x).length ≤ s.room + (s.fs j).1.length
          rw [← h1.1, List.length_append]
          have := HFIT.out
          omega
        have HB5 := Lib.hid hb5
        have HKP := Lib.hid hokp
        have HJ := Lib.hid hJ
        have HNL := Lib.hid hnl2
        obtain ⟨w6, hw6⟩ : ∃ w6, w6 = w5.setCell ⟨q, 0, none⟩ (.slice a5 nl c5) := ⟨_, rfl⟩
        rw [← hw6] at h8 m0 m1
        have HW6 := Lib.hid hw6
        clear h4 h5 h6 h7 hnl hnl2 hb5 hokp hJ HS HN0 hw6 k1
        go_upto_region 9 with (fail)
        rw [← HW6.out]
        go_wp2_with fail
        have hset := dset_spec p s j a5 c5 d (bs ++ x) h8 (by rw [← HNL.out]; exact HB5.out) HKP.out
        rw [← HNL.out] at hset
        refine hset.mono ?_
        rintro e w7 ⟨rfl, h9⟩
        have happ : s.put j (bs ++ x, d) = s.app j x := by rw [DSt.app, ← HBS.out.1, ← HBS.out.2.1]
        rw [happ] at h9
        have hstep := dstep_spec p (s.app j x) h9 HOFF.out
        have HSTEP := Lib.hid hstep
        clear hset h8 h9 happ hstep m0 m1 kf k0
        go_wp2_with fail
        refine HSTEP.out.mono ?_
        rintro e w8 ⟨rfl, h10⟩
        have h11 := h10.p1.kn_mono HJ.out
        obtain ⟨t, ht⟩ : ∃ t, t = (s.app j x).step.1 := ⟨_, rfl⟩
        rw [← ht]
        have HT := Lib.hid ht
        clear HSTEP h10 ht
        cases t with
        | true =>
          go_wp2_with fail
          go_ret
          rw [HE.out, ← HT.out]
          exact ⟨rfl, h11.p1⟩
        | false =>
          go_wp2_with fail
          go_ret
          rw [HE.out, ← HT.out]
          exact ⟨rfl, h11.p1⟩
  · have hn' : n < 0 ∨ 64 ≤ n := by omega
    have e : appendD s n x = (1, s) := by rw [appendD, if_pos hn']
    rw [e]
    rw [decide_eq_false hn] at hex
    have HEX := Lib.hid hex
    have H := Lib.hid h
    clear hex hn hn' e c2 h h0 hok hpl hl64 hv hxl
    go_enter Tryz.func35, Tryz.ntmps35
    go_wp2_with fail
    refine HEX.out.mono ?_
    rintro e w' ⟨rfl, rfl⟩
    go_wp2_with fail
    go_ret
    exact ⟨rfl, H.out⟩
end Go.Proofs.YtdaknmcmjnbfeaaGreat
