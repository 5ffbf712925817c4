/- JournalDetects, the walk. -/
import Derived.Test.YtdaknmcmjnbfeaaJ11
import Derived.Test.YtdaknmcmjnbfeaaJ12
namespace Go.Proofs.Ytdaknmcmjnbfeaa
open Go.RowKit PA
theorem xor_u8 (a b : Nat) (ha : a < 256) (hb : b < 256) : bits .xor .u8 (a : Int) (b : Int) = ((a ^^^ b : Nat) : Int) ∧ a ^^^ b < 256 := by
  have hx : a ^^^ b < 256 := Nat.xor_lt_two_pow (n := 8) ha hb
  refine ⟨?_, hx⟩
  show IntKind.u8.wrap ((BitVec.ofInt 8 (a : Int) ^^^ BitVec.ofInt 8 (b : Int)).toNat : Int) = _
  rw [BitVec.toNat_xor, BitVec.ofInt_natCast, BitVec.ofInt_natCast, BitVec.toNat_ofNat, BitVec.toNat_ofNat, Nat.mod_eq_of_lt (by simpa using ha), Nat.mod_eq_of_lt (by simpa using hb)]
  exact wraps_u8 _ (by omega) (by have : a ^^^ b < 2 ^ 8 := hx
                                  exact_mod_cast this)
theorem xor_ne (a b : Nat) (hb : b ≠ 0) : a ^^^ b ≠ a := by
  intro h
  have := xor_cancel a b 0 (by rw [h, Nat.xor_zero])
  exact hb this
theorem scan_one (own : List UInt8) (h : own.length ≤ 200) : scanJ 0 (frameJ 0 own) = ([own], (frameJ 0 own).length) := by
  have hl := frameJ_le 0 own (by omega) (by omega) (by omega)
  have e : frameJ ((0 : Nat) : Int) own = frameJ 0 own := rfl
  have hy := scanJ_yes (i := 0) (x := own) (t := []) (by omega) (by rw [e]; omega)
  rw [e, List.append_nil, scanJ_short 1 [] (by simp)] at hy
  rw [hy]
  rfl
theorem read_frame (own : List UInt8) (h : own.length ≤ 200) : stR (.ok (frameJ 0 own)) = (coreJ 0 own, .ok (Lib.uvarint (bytesN frameL (coreJ 0 own)))) := by
  have hl := frameJ_le 0 own (by omega) (by omega) (by omega)
  have := (ref_of 0 own [] (by omega) (by omega) (by omega)).1
  rwa [List.append_nil, List.append_nil] at this
set_option maxRecDepth 100000 in
set_option maxHeartbeats 8000000 in
theorem journalDetects_walk (a0 : Option Addr) (len0 cap0 : Nat) (z0 : List Int) (a1 : Int) (w : World)
    (w0 : IsArgB w a0 len0 cap0 z0) (w1 : (Lit.int .i64 a1).wf = true) :
    Calls Try.prog 5 #[.slice a0 len0 cap0, .int .i64 a1] w fun e w' => e = .returned (.bool true) ∧ Below w.heap.size w w' := by
  obtain ⟨b, hb, hr2⟩ := argB w0
  have hn64 := i64_of_wf w1
  have h := Sat.startKn w
  have HN := Lib.hid hn64
  clear w0 w1 hn64 hb
  have hfew := few_spec (.slice a0 len0 cap0) b 200 h hr2 (by omega)
  have HF := Lib.hid hfew
  clear hr2 hfew h
  go_enter Try.func5, Try.ntmps5
  go_wp2_with fail
  refine HF.out.mono ?_
  rintro e w1 ⟨ao, co, rfl, h1⟩
  clear HF
  obtain ⟨own, hown⟩ : ∃ own, own = b.take 200 := ⟨_, rfl⟩
  have hol : own.length ≤ 200 := by rw [hown, List.length_take]; omega
  rw [← hown] at h1 ⊢
  clear hown
  obtain ⟨I, hI, ho, h2⟩ := h1.bytes_of_osl.2.learn
  have HO := Lib.hid ho
  have HOL := Lib.hid hol
  clear h1 hI ho hol
  go_wp2_with fail
  refine (jframe_spec 0 _ own h2 HO.out ⟨by omega, by omega⟩ (by have := HOL.out; omega)).mono ?_
  rintro e w2 ⟨fa, fc, rfl, h3⟩
  obtain ⟨f, hf⟩ : ∃ f, f = frameJ 0 own := ⟨_, rfl⟩
  rw [← hf] at h3 ⊢
  have hfl : f.length ≤ 240 := by rw [hf]; have := frameJ_le 0 own (by omega) (by omega) (by have := HOL.out; omega); have := HOL.out; omega
  obtain ⟨I1, hI1, hb1, h4⟩ := h3.bytes_of_osl.2.learn
  obtain ⟨n, hn⟩ : ∃ n, n = f.length := ⟨_, rfl⟩
  rw [← hn] at hb1 hfl ⊢
  have HB1 := Lib.hid hb1
  have HI1 := Lib.hid hI1
  have HFD := Lib.hid hf
  have HNF := Lib.hid hn
  have hwr := newWr h4
  obtain ⟨p1, hp1⟩ : ∃ p1, p1 = w2.heap.size := ⟨_, rfl⟩
  obtain ⟨w3, hw3⟩ : ∃ w3, w3 = w2.alloc (.cells #[.slice none 0 0] 37) := ⟨_, rfl⟩
  rw [← hp1, ← hw3] at hwr
  have HP1 := Lib.hid hp1
  have HW3 := Lib.hid hw3
  clear h2 h3 h4 hb1 hI1 hf hn hp1 hw3
  go_upto_region 4 with (fail)
  rw [← HW3.out, ← HP1.out]
  go_wp2_with fail
  refine (wint_spec p1 [] 0 (by omega) (by omega) hwr (by simp)).mono ?_
  rintro e w4 ⟨rfl, h5⟩
  rw [List.nil_append] at h5
  have hI10 := encI_length 0 (by omega) (by omega)
  clear hwr
  go_wp2_with fail
  refine (wraw_spec p1 _ _ own h5 (rBytes.mono HI1.out HO.out) (by omega) (by have := HOL.out; omega)).mono ?_
  rintro e w5 ⟨rfl, h6⟩
  obtain ⟨C, hC⟩ : ∃ C, C = coreJ 0 own := ⟨_, rfl⟩
  have hC2 : encI 0 ++ encR own = C := by rw [hC, coreJ]
  rw [hC2] at h6
  have hCf : C.length ≤ n := by rw [hC, HNF.out, HFD.out]; exact (frameJ_length 0 own).2
  have HC := Lib.hid hC
  clear h5 hC hC2 hI10
  go_wp2_with fail
  refine (wdone_spec p1 C h6 (by omega)).mono ?_
  rintro e w6 ⟨ca, cc, rfl, h7⟩
  obtain ⟨I2, hI2, hb2, h8⟩ := (show Sat w w6 (sep (rBytes.is [.slice ca C.length cc] C) (sep (kn I1) (sep (isWr p1 C) emp))) by
    have := h7.bytes_of_osl.2
    simpa only [sep_comm, sep_lcomm, sep_assoc] using this).learn
  obtain ⟨cl, hcl⟩ : ∃ cl, cl = C.length := ⟨_, rfl⟩
  rw [← hcl] at hb2 hCf ⊢
  have HB2 := Lib.hid hb2
  have HI2 := Lib.hid hI2
  have HCL := Lib.hid hcl
  have hwr := newWr h8.p1.drop
  obtain ⟨p2, hp2⟩ : ∃ p2, p2 = w6.heap.size := ⟨_, rfl⟩
  obtain ⟨w7, hw7⟩ : ∃ w7, w7 = w6.alloc (.cells #[.slice none 0 0] 37) := ⟨_, rfl⟩
  rw [← hp2, ← hw7] at hwr
  have hcw : IntKind.u64.wrap (cl : Int) = (cl : Nat) := wraps_u64 _ (by omega) (by omega)
  have HP2 := Lib.hid hp2
  have HW7 := Lib.hid hw7
  clear h6 h7 h8 hb2 hI2 hcl hp2 hw7
  go_upto_region 8 with (fail)
  rw [← HW7.out, ← HP2.out]
  go_wp2_with fail
  refine (wuint_spec p2 [] cl (by omega) hwr (by simp)).mono ?_
  rintro e w8 ⟨rfl, h9⟩
  rw [List.nil_append] at h9
  obtain ⟨U, hU⟩ : ∃ U, U = Lib.uvarint cl := ⟨_, rfl⟩
  have hul : U.length ≤ 10 := by rw [hU]; exact Lib.uvarint_length64 (by omega)
  rw [← hU] at h9
  have HU := Lib.hid hU
  clear hwr hcw hU
  go_wp2_with fail
  refine (wdone_spec p2 U h9 (by omega)).mono ?_
  rintro e w9 ⟨ua, uc, rfl, h10⟩
  obtain ⟨ah, hah⟩ : ∃ ah, ah = U.length := ⟨_, rfl⟩
  have h11 := h10.forget_osl
  rw [← hah] at hul ⊢
  have hsum : n = ah + (cl + (Lib.uvarint (bytesN frameL C)).length) := by
    rw [HNF.out, HFD.out, frameJ, encR, ← HC.out, ← HCL.out, ← HU.out, hah, HCL.out]
    simp only [List.length_append]
    omega
  have hpos := Lib.uvarint_pos (bytesN frameL C)
  obtain ⟨hl, hhl⟩ : ∃ hl, hl = (Lib.uvarint (bytesN frameL C)).length := ⟨_, rfl⟩
  rw [← hhl] at hsum hpos
  have HAH := Lib.hid hah
  have HSUM := Lib.hid hsum
  have hgt : ah < n := by omega
  clear h9 h10 hah hhl hsum hpos
  go_wp2_with fail
  refine (wraw_spec p2 U _ C h11 HB2.out (by rw [← HAH.out]; omega) (by rw [← HCL.out]; omega)).mono ?_
  rintro e w10 ⟨rfl, h12⟩
  have h13 := h12.drop
  have g1 : ¬ (n : Int) ≤ (ah : Int) := by omega
  have gI : (n : Int) ≤ 240 := by omega
  have gA : (ah : Int) ≤ 10 := by omega
  obtain ⟨m, hm⟩ : ∃ m, m = n - ah := ⟨_, rfl⟩
  have hmI : (n : Int) - (ah : Int) = (m : Int) := by omega
  have hm1 : 1 ≤ m ∧ m ≤ 240 := by omega
  have hm8 : (8 : Int) * (m : Int) = ((8 * m : Nat) : Int) := by omega
  obtain ⟨m8, hm82⟩ : ∃ m8, m8 = 8 * m := ⟨_, rfl⟩
  rw [← hm82] at hm8
  have HM := Lib.hid (And.intro hm hm82)
  clear h11 h12 hm hm82 hgt
  go_wp2_with fail
  refine (around_spec a1 m8 _ HN.out.1 HN.out.2 (by have := HM.out.2; omega) (by have := HM.out.2; omega)).mono ?_
  rintro e w11 ⟨rfl, rfl⟩
  obtain ⟨e1, e2⟩ := aroundI_lt a1 (m8 : Int) (by have := HM.out.2; omega)
  obtain ⟨at_, hat⟩ : ∃ at_ : Nat, aroundI a1 m8 = at_ := ⟨(aroundI a1 m8).toNat, by omega⟩
  rw [hat] at e1 e2 ⊢
  have HAT := Lib.hid e2
  clear e1 e2 hat
  go_wp2_with fail
  refine (few_spec _ f n h13 (rBytes.mono HI2.out HB1.out) (by omega)).mono ?_
  rintro e w12 ⟨ta, tc, rfl, h14⟩
  have htk : f.take n = f := List.take_of_length_le (by rw [← HNF.out]; omega)
  rw [htk] at h14 ⊢
  rw [← HNF.out] at h14 ⊢
  clear htk h13
  obtain ⟨d, hd⟩ : ∃ d, d = at_ / 8 := ⟨_, rfl⟩
  obtain ⟨sh, hsh⟩ : ∃ sh, sh = at_ % 8 := ⟨_, rfl⟩
  have hdI : (at_ : Int).tdiv 8 = (d : Int) := by rw [Int.tdiv_eq_ediv_of_nonneg (by omega)]; omega
  have hsI : (at_ : Int).tmod 8 = (sh : Int) := by rw [Int.tmod_eq_emod_of_nonneg (by omega)]; omega
  obtain ⟨k, hk⟩ : ∃ k, k = ah + d := ⟨_, rfl⟩
  have hkI : (ah : Int) + (d : Int) = (k : Int) := by omega
  have hkn : k < n := by have := HM.out; have := HAT.out; omega
  have hknI : (k : Int) < (n : Int) := by omega
  have hk0 : (0 : Int) ≤ (k : Int) := by omega
  have hsh8 : sh < 8 := by omega
  have hkf : k < f.length := by rw [← HNF.out]; exact hkn
  obtain ⟨g, rfl, hgc, hgf, hset⟩ := h14.osl_set k (by rw [List.length_map]; exact hkf) (.int .u8 0)
  rw [List.getElem_map] at hgc
  obtain ⟨xk, hxk⟩ : ∃ xk, xk = f[k] := ⟨_, rfl⟩
  rw [← hxk] at hgc
  have hgc' : w12.cell? ⟨g, k, none⟩ = some (.int .u8 (xk.toNat : Nat)) := hgc
  have HX := Lib.hid hxk
  have HKF := Lib.hid hkf
  have HK := Lib.hid (And.intro hk (And.intro hd hsh))
  clear hgc hset hxk hk hd hsh hkn
  go_wp2_with fail
  have hp256 : 2 ^ sh < 256 := by
    have : 2 ^ sh ≤ 2 ^ 7 := Nat.pow_le_pow_right (by omega) (by omega)
    omega
  have hpI : (2 : Int) ^ sh % 256 = ((2 ^ sh : Nat) : Int) := by
    have : ((2 ^ sh : Nat) : Int) = (2 : Int) ^ sh := by push_cast; rfl
    rw [← this, Int.emod_eq_of_lt (Int.natCast_nonneg _) (by exact_mod_cast hp256)]
  have hxor := xor_u8 xk.toNat (2 ^ sh) xk.toNat_lt hp256
  obtain ⟨y, hy⟩ : ∃ y : UInt8, y = UInt8.ofNat (xk.toNat ^^^ 2 ^ sh) := ⟨_, rfl⟩
  have hyv : y.toNat = xk.toNat ^^^ 2 ^ sh := by rw [hy, UInt8.toNat_ofNat']; exact Nat.mod_eq_of_lt hxor.2
  have hyne : y ≠ f[k]'HKF.out := by
    intro e
    rw [← HX.out] at e
    have : y.toNat = xk.toNat := by rw [e]
    rw [hyv] at this
    exact xor_ne _ _ (by have := Nat.two_pow_pos sh; omega) this
  rw [hpI, hxor.1, ← hyv]
  obtain ⟨g', hg', -, -, hset⟩ := h14.osl_set k (by rw [List.length_map]; exact hkf) (.int .u8 (y.toNat : Int))
  simp only [Option.some.injEq, Addr.mk.injEq] at hg'
  obtain ⟨rfl, -, -⟩ := hg'
  have e5 : (f.map bv).set k (.int .u8 (y.toNat : Int)) = (f.set k y).map bv := by rw [List.map_set]; rfl
  rw [e5] at hset
  have hflip : scanJ 0 (f.set k y) = ([], 0) := by
    have hkk := HK.out.1
    have := frame_flip own (by have := HOL.out; omega) k y (by rw [← HC.out, ← HCL.out, ← HU.out, ← HAH.out]; omega) (by rw [← HFD.out, ← HNF.out]; omega) (by
      intro e
      refine hyne ?_
      rw [e]
      congr 1
      exact HFD.out.symm)
    rwa [← HFD.out] at this
  obtain ⟨w13, hw13⟩ : ∃ w13, w13 = w12.setCell ⟨g, k, none⟩ (.int .u8 (y.toNat : Int)) := ⟨_, rfl⟩
  rw [← hw13] at hset ⊢
  obtain ⟨F2, hF2⟩ : ∃ F2, F2 = f.set k y := ⟨_, rfl⟩
  have hF2l : F2.length ≤ 1000000 := by rw [hF2, List.length_set, ← HNF.out]; omega
  rw [← hF2] at hset hflip
  obtain ⟨I3, hI3, hb3, h15⟩ := hset.bytes_of_osl.2.learn
  have HB3 := Lib.hid hb3
  have HI3 := Lib.hid hI3
  have HFLIP := Lib.hid hflip
  have HF2L := Lib.hid hF2l
  clear h14 hgf hgc' hxor hy hyv hyne e5 hset hw13 hF2 hF2l hb3 hI3 hflip hp256 hpI hsI hdI hkI hknI hk0 hsh8 hkf HX HKF HK
  refine (scan_spec _ F2 h15 HB3.out HF2L.out).mono ?_
  rintro e w14 ⟨u, rfl, h16⟩
  rw [HFLIP.out] at h16 ⊢
  dsimp only at h16 ⊢
  obtain ⟨lu, cu, rfl, -⟩ := slice_form h16.pers_heap
  have h17 := h16.drop
  clear h15 h16
  go_wp2_with fail
  refine (scan_spec _ f h17 (rBytes.mono (Mem.le_trans HI2.out HI3.out) HB1.out) (by rw [← HNF.out]; omega)).mono ?_
  rintro e w15 ⟨u2, rfl, h18⟩
  have hone := scan_one own HOL.out
  rw [← HFD.out] at hone
  rw [hone, ← HNF.out] at h18 ⊢
  dsimp only at h18 ⊢
  obtain ⟨lu2, cu2, rfl, -⟩ := slice_form h18.pers_heap
  have h19 : Sat w w15 (sep (rBytes.is [.slice fa n fc] f) (sep (kn I3) emp)) := h18.drop.tell (rBytes.mono (Mem.le_trans HI2.out HI3.out) HB1.out)
  clear h17 h18 hone
  go_wp2_with fail
  refine (read_spec _ f h19 (by rw [← HNF.out]; omega)).mono ?_
  rintro e w16 ⟨p3, rfl, h20⟩
  have hrf := read_frame own HOL.out
  rw [← HFD.out, ← HC.out] at hrf
  obtain ⟨hh, hhd⟩ : ∃ hh, hh = bytesN frameL C := ⟨_, rfl⟩
  have hhl : hh < 18446744073709551616 := by rw [hhd]; exact bytesN_lt _ _
  rw [← hhd] at hrf
  have h21 : Sat w w16 (sep (isRd 75 p3 (.ok f)) (sep (kn I3) emp)) := by
    have := h20.p1.drop
    simpa only [sep_comm, sep_lcomm, sep_assoc] using this
  have HHD := Lib.hid hhd
  have HHL := Lib.hid hhl
  have HRF := Lib.hid hrf
  clear h19 h20 hhd hhl hrf
  go_wp2_with fail
  refine (rdraw_spec p3 _ h21 (by show f.length ≤ _; rw [← HNF.out]; omega)).mono ?_
  rintro e w17 ⟨vi, rfl, h22⟩
  rw [HRF.out] at h22
  dsimp only at h22
  have huh := uint_st hh [] HHL.out
  rw [List.append_nil] at huh
  have HUH := Lib.hid huh
  have h23 := h22.p1
  clear h21 h22 huh
  go_wp2_with fail
  refine (rduint_spec p3 _ h23 (by show (Lib.uvarint hh).length ≤ _; have := Lib.uvarint_length64 HHL.out; omega)).mono ?_
  rintro e w18 ⟨rfl, h24⟩
  rw [HUH.out] at h24 ⊢
  dsimp only at h24 ⊢
  clear h23
  have hse : stE (.ok []) = 0 := rfl
  have hend := rdend_spec p3 _ h24 (by show (0 : Nat) ≤ _; omega)
  rw [hse] at hend
  have HEND := Lib.hid hend
  clear hend hse h24
  go_wp2_with fail
  refine HEND.out.mono ?_
  rintro e w19 ⟨rfl, h25⟩
  have h26 : Sat w w19 (sep (rBytes.is [vi] C) (sep (rBytes.is [.slice ca cl cc] C) (sep (kn I3) emp))) := by
    have h27 : Sat w w19 (sep (kn I3) (sep (rBytes.is [vi] C) emp)) := by
      have := h25.drop
      simpa only [sep_comm, sep_lcomm, sep_assoc] using this
    have h28 : Sat w w19 (sep (rBytes.is [.slice ca cl cc] C) _) := h27.tell (rBytes.mono HI3.out HB2.out)
    simpa only [sep_comm, sep_lcomm, sep_assoc] using h28
  clear HEND h25
  go_wp2_with fail
  refine (sameBytes_spec _ _ _ _ h26).mono ?_
  rintro e w20 ⟨rfl, h27⟩
  rw [decide_eq_true (rfl : C = C)]
  have h28 := h27.drop.drop
  have hhb := hbytes_any ⟨#[102, 114, 97, 109, 101]⟩ _ C h28 (rBytes.mono HI3.out HB2.out) (by decide) (by rw [← HCL.out]; omega)
  have hhs2 : bytesN (ByteArray.mk #[102, 114, 97, 109, 101]).data.toList C = hh := by rw [HHD.out]; rfl
  rw [hhs2] at hhb
  have HHB := Lib.hid hhb
  clear h26 h27 h28 hhb hhs2
  go_wp2_with fail
  refine HHB.out.mono ?_
  rintro e w21 ⟨rfl, h29⟩
  clear HHB
  go_wp2_with fail
  refine (lives30_spec h29).mono ?_
  rintro e w22 ⟨rfl, h30⟩
  clear h29
  go_wp2_with fail
  go_ret
  exact ⟨rfl, h30.below⟩
end Go.Proofs.Ytdaknmcmjnbfeaa
