/- Package disk: Rot. -/
import Derived.Test.YtbniekblkbdidaaD5
import Derived.Test.YtbniekblkbdidaaFe
namespace Go.Proofs.Ytbniekblkbdidaa
open Go.RowKit PA
theorem xor_u8 (a b : Nat) (ha : a < 256) (hb : b < 256) : bits .xor .u8 (a : Int) (b : Int) = ((a ^^^ b : Nat) : Int) ∧ a ^^^ b < 256 := by
  have hx : a ^^^ b < 256 := Nat.xor_lt_two_pow (n := 8) ha hb
  refine ⟨?_, hx⟩
  show IntKind.u8.wrap ((BitVec.ofInt 8 (a : Int) ^^^ BitVec.ofInt 8 (b : Int)).toNat : Int) = _
  rw [BitVec.toNat_xor, BitVec.ofInt_natCast, BitVec.ofInt_natCast, BitVec.toNat_ofNat, BitVec.toNat_ofNat, Nat.mod_eq_of_lt (by simpa using ha), Nat.mod_eq_of_lt (by simpa using hb)]
  exact wraps_u8 _ (by omega) (by have : a ^^^ b < 2 ^ 8 := hx
                                  exact_mod_cast this)
/-- What the code makes of a byte whose bit k is inverted. -/
theorem flip_val (x : UInt8) (k : Nat) : bits .xor .u8 (x.toNat : Int) (IntKind.u8.wrap ((2 : Int) ^ (7 - k))) = ((flipB x k).toNat : Int) := by
  have h1 : 2 ^ (7 - k) < 2 ^ 8 := Nat.pow_lt_pow_right (by omega) (by omega)
  have h2 : IntKind.u8.wrap ((2 : Int) ^ (7 - k)) = ((2 ^ (7 - k) : Nat) : Int) := by
    have : ((2 ^ (7 - k) : Nat) : Int) = (2 : Int) ^ (7 - k) := by push_cast; rfl
    rw [← this]
    exact wraps_u8 _ (Int.natCast_nonneg _) (by have := Int.ofNat_lt.2 (show 2 ^ (7 - k) < 256 from h1); simpa using this)
  rw [h2, (xor_u8 _ _ x.toNat_lt h1).1, flipB_toNat]
set_option maxRecDepth 100000 in
set_option maxHeartbeats 4000000 in
theorem drot_spec {W w : World} {A : Assn} (p : Nat) (s : DSt) (n bit : Int) (h : Sat W w (sep (isDisk p s) A)) (hbit : I64' bit) :
    Calls Try.prog 34 #[.pointer (some ⟨p, 0, none⟩), .int .i64 n, .int .i64 bit] w fun e w' => e = .returned (.int .i64 (rotD s n bit).1) ∧ Sat W w' (sep (isDisk p (rotD s n bit).2) A) := by
  obtain ⟨b, f, nf, left, hok, hpl, hl64, h0⟩ := isDisk_open h
  have c0 : w.cell? ⟨p, 0, none⟩ = some (.map (some b)) := h0.cell 0
  obtain ⟨a0, cc, hlook, hr0⟩ := look_is hok h0.p2 n
  have hsm := file_small hok n
  obtain ⟨bs, hbs⟩ : ∃ bs, bs = (fileAt s.fs n).1 := ⟨_, rfl⟩
  obtain ⟨d, hd⟩ : ∃ d, d = (fileAt s.fs n).2 := ⟨_, rfl⟩
  rw [← hbs] at hlook hr0 hsm
  rw [← hd] at hlook hsm
  have hlk := run_lookup_bmap (P := Try.prog) (T := 66) Try.underlying66 Try.underlying3 zeroFile h0.p1 n false
  rw [hlook] at hlk
  obtain ⟨l, hl⟩ : ∃ l, l = bs.length := ⟨_, rfl⟩
  rw [← hl] at hlk hr0 hsm
  have hlk2 : (Instr.lookup 66 (.map (some b)) (.int .i64 n) false).run Try.prog w = .ok (.agg #[.slice a0 l cc, .int .i64 (d : Nat)]) w := hlk
  obtain ⟨I0, hk⟩ := hr0.know
  obtain ⟨I, -, hr, hr1⟩ := hk.p1.learn
  have h2 : Sat W w (sep (isDisk p s) (sep (kn I) A)) :=
    isDisk_mk (b := b) (f := f) (n := nf) (left := left) hok hpl hl64 (by simpa only [sep_comm, sep_lcomm, sep_assoc] using hr1)
  have h1 := h2.alloc (.cells #[.slice a0 l cc, .int .i64 (d : Nat)] 71)
  obtain ⟨q, hq⟩ : ∃ q, q = w.heap.size := ⟨_, rfl⟩
  obtain ⟨w1, hw1⟩ : ∃ w1, w1 = w.alloc (.cells #[.slice a0 l cc, .int .i64 (d : Nat)] 71) := ⟨_, rfl⟩
  rw [← hq, ← hw1] at h1
  have q0 : w1.cell? ⟨q, 0, none⟩ = some (.slice a0 l cc) := h1.cell 0
  have hex := dexists_spec n w1
  have HW := Lib.hid (And.intro hq hw1)
  have HBS := Lib.hid (And.intro hbs (And.intro hd hl))
  have HSM := Lib.hid hsm
  have HOK := Lib.hid hok
  have HD := Lib.hid h1
  have HDk : Hid (Sat W w1 (sep (isDisk p s) A)) := Lib.hid (by have := h1.drop; exact (show Sat W w1 (sep (kn I) (sep (isDisk p s) A)) from this.p1).drop)
  have ht1 : (n < 0 ∨ 64 ≤ n ∨ bit < 0 ∨ l ≤ bit.toNat / 8) → rotD s n bit = (1, s) := fun hc => by
    rw [rotD, if_pos (by rw [← hbs, ← hl]; exact hc)]
  have ht2 : ¬ (n < 0 ∨ 64 ≤ n ∨ bit < 0 ∨ l ≤ bit.toNat / 8) → rotD s n bit = (0, s.put n.toNat (flipAt (s.fs n.toNat).1 bit.toNat, (s.fs n.toNat).2)) := fun hc => by
    rw [rotD, if_neg (by rw [← hbs, ← hl]; exact hc)]
  have HT1 := Lib.hid ht1
  have HT2 := Lib.hid ht2
  have HR := Lib.hid hr
  clear h0 hpl hl64 hlook hlk hq hw1 hbs hd hl hsm hok hr0 hk hr hr1 h2 h1 h ht1 ht2
  by_cases hn : 0 ≤ n ∧ n < 64
  · rw [decide_eq_true hn] at hex
    have HEX := Lib.hid hex
    by_cases hs1 : bit < 0
    · have HT := Lib.hid (HT1.out (.inr (.inr (.inl hs1))))
      clear hex hbit
      go_enter Try.func34, Try.ntmps34
      go_upto_region 2 with (fail)
      rw [← HW.out.1, ← HW.out.2]
      go_wp2_with fail
      refine HEX.out.mono ?_
      rintro e w' ⟨rfl, rfl⟩
      clear c0 hlk2 HW HEX
      go_wp2_with fail
      go_ret
      rw [HT.out]
      exact ⟨rfl, HDk.out⟩
    · obtain ⟨k, rfl⟩ : ∃ k : Nat, bit = (k : Int) := ⟨bit.toNat, by omega⟩
      obtain ⟨i, hi⟩ : ∃ i, i = k / 8 := ⟨_, rfl⟩
      obtain ⟨r, hr⟩ : ∃ r, r = k % 8 := ⟨_, rfl⟩
      have hdI : (k : Int).tdiv 8 = (i : Int) := by rw [Int.tdiv_eq_ediv_of_nonneg (by omega)]; omega
      have hsI : (k : Int).tmod 8 = (r : Int) := by rw [Int.tmod_eq_emod_of_nonneg (by omega)]; omega
      have hi1 : (0 : Int) ≤ (i : Int) := by omega
      have hi2 : (i : Int) ≤ 9223372036854775807 := by have := hbit.2; omega
      have hwi : IntKind.i64.wrap (i : Int) = (i : Int) := IntWalk.i64_in _ (by omega)
      by_cases hs2 : l ≤ i
      · have HT := Lib.hid (HT1.out (.inr (.inr (.inr (by rw [Int.toNat_natCast, ← hi]; exact hs2)))))
        have g2 : (l : Int) ≤ (i : Int) := by omega
        clear hex hbit hi hr hs2
        go_enter Try.func34, Try.ntmps34
        go_upto_region 2 with (fail)
        rw [← HW.out.1, ← HW.out.2]
        go_wp2_with fail
        refine HEX.out.mono ?_
        rintro e w' ⟨rfl, rfl⟩
        clear c0 hlk2 HW HEX
        go_wp2_with fail
        go_ret
        rw [HT.out]
        exact ⟨rfl, HDk.out⟩
      · have g2 : ¬ (l : Int) ≤ (i : Int) := by omega
        have HT := Lib.hid (HT2.out (by rw [Int.toNat_natCast, ← hi]; omega))
        obtain ⟨j, rfl⟩ : ∃ j : Nat, n = (j : Int) := ⟨n.toNat, by omega⟩
        obtain ⟨hr1, hr2, hr3⟩ := rel_src' HR.out
        have hsrc := hr3 w1 HD.out.p2.ext
        have hcl := clone_any a0 l cc (bs.map bv) HD.out hsrc (by rw [List.length_map]; exact hr1) hr2 (bv_one bs) (by have := HSM.out; omega)
        have HCL := Lib.hid hcl
        have HK := Lib.hid (And.intro hi (And.intro hr (And.intro hs2 hr1)))
        have hr8 : r < 8 := by omega
        clear hex hs1 hbit hi hr hs2 hsrc hcl hr1 hr2 hr3
        go_enter Try.func34, Try.ntmps34
        go_upto_region 2 with (fail)
        rw [← HW.out.1, ← HW.out.2]
        go_wp2_with fail
        refine HEX.out.mono ?_
        rintro e w' ⟨rfl, rfl⟩
        clear c0 hlk2 HW HEX
        go_wp2_with fail
        refine HCL.out.mono ?_
        rintro e w2 ⟨a', c', rfl, h2⟩
        have k0 : w2.cell? ⟨q, 0, none⟩ = some (.slice a0 l cc) := h2.p1.cell 0
        have kz := h2.p1.unfrozen 0
        have h3 := h2.p1.setCell 0 (.slice a' l c')
        obtain ⟨w3, hw3⟩ : ∃ w3, w3 = w2.setCell ⟨q, 0, none⟩ (.slice a' l c') := ⟨_, rfl⟩
        rw [← hw3] at h3
        have h3d := h3.drew
        have hS0 : True := trivial
        have m0 : w3.drew.cell? ⟨q, 0, none⟩ = some (.slice a' l c') := h3d.cell 0
        have hil : i < bs.length := by have := HK.out; omega
        obtain ⟨g, rfl, hgc, hgf, hset⟩ := h3d.p1.osl_set i (by rw [List.length_map]; exact hil) (.int .u8 ((flipB bs[i] r).toNat : Int))
        rw [List.getElem_map] at hgc
        obtain ⟨x, hx⟩ : ∃ x, x = bs[i] := ⟨_, rfl⟩
        rw [← hx] at hgc hset
        have hgc' : w3.drew.cell? ⟨g, i, none⟩ = some (.int .u8 (x.toNat : Nat)) := hgc
        have hfv := flip_val x r
        obtain ⟨m, hm⟩ : ∃ m, m = 7 - r := ⟨_, rfl⟩
        rw [← hm] at hfv
        have h7 : (7 : Int) - (r : Int) = (m : Int) := by omega
        have hwm : IntKind.i64.wrap (m : Int) = (m : Int) := IntWalk.i64_in _ (by omega)
        have hm8 : m < 8 := by omega
        have HW3 := Lib.hid hw3
        have HSET := Lib.hid hset
        have HX := Lib.hid hx
        have hil2 : (i : Int) < (l : Int) := by omega
        clear h2 h3 h3d HCL hw3 hset hgc hx hm
        go_upto_region 5 with (fail)
        rw [← HW3.out]
        refine wp_region_canon rfl (fun _ => True) [(0, .p), (1, .t), (2, .p), (3, .p), (4, .p), (5, .t), (6, .p), (7, .p), (8, .p), (9, .p), (10, .p), (11, .p), (12, .e false)] (by kernel_rfl) ?_
        (repeat (first | (refine C_p (v := ?_) rfl rfl (fun w' => ?_) ?_; rotate_left; (go_simp; with_reducible rfl); simp only [Act.put, List.setIfInBounds_toArray, List.set_cons_zero, List.set_cons_succ]) | (refine C_s (v := ?_) rfl rfl hS0 (fun w' hS => ?_) ?_; rotate_left; ((try dsimp only at hS); go_simp; with_reducible rfl); simp only [Act.put, List.setIfInBounds_toArray, List.set_cons_zero, List.set_cons_succ]) | (refine C_t (v := ?_) rfl rfl ?_ ?_; rotate_left; (go_simp; with_reducible rfl); simp only [Act.put, List.setIfInBounds_toArray, List.set_cons_zero, List.set_cons_succ]) | (refine C_po rfl rfl ?_; simp only [Act.put, List.setIfInBounds_toArray, List.set_cons_zero, List.set_cons_succ]) | (refine C_so rfl rfl hS0 ?_; simp only [Act.put, List.setIfInBounds_toArray, List.set_cons_zero, List.set_cons_succ]) | (refine C_to rfl rfl ?_; simp only [Act.put, List.setIfInBounds_toArray, List.set_cons_zero, List.set_cons_succ])))
        (refine C_e rfl rfl (fun K hK => ?_); go_simp)
        obtain ⟨w4, hw4⟩ : ∃ w4, w4 = (w3.setCell ⟨g, i, none⟩ (.int .u8 ((flipB x r).toNat : Nat))).drew := ⟨_, rfl⟩
        have hS4 : Sat W w4 (sep (osl 5 1 (some ⟨g, 0, none⟩) l c' (((bs.set i (flipB x r))).map bv)) (sep (blk q (.cells #[.slice (some ⟨g, 0, none⟩) l c', .int .i64 (d : Nat)] 71 (0, 0))) (sep (isDisk p s) (sep (kn I) A)))) := by
          have h8 := HSET.out
          rw [hw4, List.map_set]
          exact h8
        rw [← hw4]
        have hfl : bs.set i (flipB x r) = flipAt bs k := by
          have hk := HK.out
          have hkl : k / 8 < bs.length := by omega
          apply List.ext_getElem
          · simp [flipAt]
          · intro y h1 h2
            simp only [flipAt, List.getElem_set, List.getElem_modify, ← hk.1, ← hk.2.1]
            split
            · rename_i e; subst e; rw [HX.out]
            · rfl
        rw [hfl] at hS4
        have HW4 := Lib.hid hw4
        clear HSET hw4 hfl
        (refine hK _ _ (fun h => by cases h) ?_; clear hK K; (try simp only [Act.put, List.setIfInBounds_toArray, List.set_cons_zero, List.set_cons_succ]))
        refine C_nil ?_
        have hfl : (flipAt bs k).length = l := by rw [flipAt_len]; exact HK.out.2.2.2
        obtain ⟨J, hJ, hb5, h6⟩ := (show Sat W w4 (sep (rBytes.is [.slice (some ⟨g, 0, none⟩) l c'] (flipAt bs k)) (sep (kn I) (sep (blk q (.cells #[.slice (some ⟨g, 0, none⟩) l c', .int .i64 (d : Nat)] 71 (0, 0))) (sep (isDisk p s) A)))) by
          have := hS4.bytes_of_osl.2
          simpa only [sep_comm, sep_lcomm, sep_assoc] using this).learn
        have q0 : w4.cell? ⟨q, 0, none⟩ = some (.slice (some ⟨g, 0, none⟩) l c') := h6.p1.cell 0
        have q1 : w4.cell? ⟨q, 1, none⟩ = some (.int .i64 (d : Nat)) := h6.p1.cell 1
        have h7 : Sat W w4 (sep (isDisk p s) (sep (kn J) A)) := by
          have := h6.p1.drop
          simpa only [sep_comm, sep_lcomm, sep_assoc] using this
        have efa : fileAt s.fs (j : Int) = s.fs j := by rw [fileAt, if_pos (by omega)]; rfl
        have hokp : (s.put j (flipAt bs k, d)).ok := by
          have h1 := HBS.out
          rw [efa] at h1
          refine HOK.out.put (by omega) (by show d ≤ (flipAt bs k).length; rw [hfl]; have := HSM.out; omega) ?_
          show s.used + (flipAt bs k).length ≤ s.room + (s.fs j).1.length
          rw [hfl, ← h1.1, ← h1.2.2]
          have := HOK.out.fit
          omega
        have hset := dset_spec p s j (some ⟨g, 0, none⟩) c' d (flipAt bs k) h7 (by rw [hfl]; exact hb5) hokp
        rw [hfl] at hset
        have HSET := Lib.hid hset
        have HFIN : Hid (rotD s (j : Int) (k : Int) = (0, s.put j (flipAt bs k, d))) := Lib.hid (by
          have h1 := HBS.out
          rw [efa] at h1
          rw [HT.out, Int.toNat_natCast, Int.toNat_natCast, ← h1.1, ← h1.2.1])
        clear hS4 h6 h7 hb5 hokp hset m0 hgf hgc' hfv kz k0 efa hfl
        go_wp2_with fail
        refine HSET.out.mono ?_
        rintro e w5 ⟨rfl, h9⟩
        clear HSET q0 q1
        go_wp2_with fail
        go_ret
        rw [HFIN.out]
        exact ⟨rfl, h9.p1.drop⟩
  · have HT := Lib.hid (HT1.out (by omega))
    rw [decide_eq_false hn] at hex
    have HEX := Lib.hid hex
    clear hex hbit
    go_enter Try.func34, Try.ntmps34
    go_upto_region 2 with (fail)
    rw [← HW.out.1, ← HW.out.2]
    go_wp2_with fail
    refine HEX.out.mono ?_
    rintro e w' ⟨rfl, rfl⟩
    clear c0 hlk2 HW HEX
    go_wp2_with fail
    go_ret
    rw [HT.out]
    exact ⟨rfl, HDk.out⟩
end Go.Proofs.Ytbniekblkbdidaa
