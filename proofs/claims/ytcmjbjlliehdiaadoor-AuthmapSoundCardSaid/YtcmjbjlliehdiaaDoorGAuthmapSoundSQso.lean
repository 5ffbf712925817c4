/- AuthmapSound, the walk. -/
import Derived.Test.YtcmjbjlliehdiaaDoorGAuthmapSound49
import Derived.Test.YtcmjbjlliehdiaaDoorGAuthmapSound43
import Derived.Deep.DeepCutAuto
namespace Go.Proofs.YtcmjbjlliehdiaaDoor
open Go.RowKit PA
attribute [local go_sem] Oper.semAt_some
theorem lkP_lenS {L : PrL} (hvl : ∀ x ∈ L, x.2.length ≤ 65536) : ∀ k v, lkP L k = some v → v.length ≤ 65536 := by
  intro k v hk
  induction L with
  | nil => cases hk
  | cons x L ih =>
    rw [lkP] at hk
    split at hk
    · cases hk; exact hvl x (by simp)
    · exact ih (fun y hy => hvl y (by simp [hy])) hk
theorem pairsL_lenS {L : PrL} (hA : AscP L) {ks : List Int} (hk : AKeys (lkP L) ks) (a b : Int) : (pairsL (lkP L) a b ks).length ≤ L.length := Nat.le_trans (pairsL_len _ a b ks) (akeys_len hA hk)
/-- The two changed proofs. -/
theorem bent01 {M : KVs} {a b : Int} (hab : 0 ≤ a ∧ a ≤ b ∧ b ≤ 4095) {ks : List Int} (hk : AKeys M ks) (hl : ∀ k v, M k = some v → v.length ≤ 65536) (n : Nat) (hn : n < 2) (i j m h : Nat) (hh : h < 18446744073709551616) :
    PrfS (bentP (rngP M a b) (aroundI (n : Int) 8).toNat i j m h) ∧ (rngP M a b ≠ bentP (rngP M a b) (aroundI (n : Int) 8).toNat i j m h → checkP (rootN M) a b (pairsL M a b ks) (bentP (rngP M a b) (aroundI (n : Int) 8).toNat i j m h) = 10) := by
  have hs := rngP_small M a b
  refine ⟨bentP_S ⟨by omega, by omega, by omega⟩ (rngP_S M a b) _ _ _ _ _ hh, fun hne => ?_⟩
  rcases (by omega : n = 0 ∨ n = 1) with rfl | rfl
  · have e : bentP (rngP M a b) (aroundI ((0 : Nat) : Int) 8).toNat i j m h = ⟨(rngP M a b).l.set i h, (rngP M a b).r, (rngP M a b).s⟩ := rfl
    rw [e] at hne ⊢
    exact check_left hab hk hl i h hh (fun e => hne e.symm)
  · have e : bentP (rngP M a b) (aroundI ((1 : Nat) : Int) 8).toNat i j m h = ⟨(rngP M a b).l, (rngP M a b).r.set j h, (rngP M a b).s⟩ := rfl
    rw [e] at hne ⊢
    exact check_right hab hk hl j h hh (fun e => hne e.symm)
set_option maxRecDepth 100000 in
set_option maxHeartbeats 16000000 in
theorem authmapSound_walk (a0 : Option Addr) (len0 cap0 : Nat) (z0 : List Int) (a1 a2 a3 a4 a5 : Int) (w : World) (hW : WholeOK w)
    (w0 : IsArg w a0 len0 cap0 z0) (w1 : (Lit.int .i64 a1).wf = true) (w2 : (Lit.int .i64 a2).wf = true) (w3 : (Lit.int .i64 a3).wf = true) (w4 : (Lit.int .u64 a4).wf = true) (w5 : (Lit.int .u8 a5).wf = true) :
    Calls Tryd.prog 9 #[.slice a0 len0 cap0, .int .i64 a1, .int .i64 a2, .int .i64 a3, .int .u64 a4, .int .u8 a5] w fun e w' => e = .returned (.bool true) ∧ Below w.heap.size w w' := by
  obtain ⟨ns, hns, hr0, h64⟩ := argI w0
  obtain ⟨hh, rfl⟩ : ∃ hh : Nat, a4 = (hh : Int) := ⟨a4.toNat, by have := (bounds_u64 w4).1; omega⟩
  have hh64 : hh < 18446744073709551616 := by have := (bounds_u64 w4).2; omega
  obtain ⟨x, rfl⟩ : ∃ x : UInt8, a5 = (x.toNat : Int) := ⟨UInt8.ofNat a5.toNat, by have := bounds_u8 w5; rw [UInt8.toNat_ofNat', Nat.mod_eq_of_lt (by omega)]; omega⟩
  have HM1 := Lib.hid (made_kn a0 len0 cap0 ns 12 (by omega) hns h64 hr0 (Sat.startKn w))
  have HW := Lib.hid hW
  have HI := Lib.hid (And.intro (i64_of_wf w3) hh64)
  have hb1 := keyQ_range a1
  have hb2 := keyQ_range a2
  obtain ⟨k1, hk1⟩ : ∃ z, z = keyQ a1 := ⟨_, rfl⟩
  obtain ⟨k2, hk2⟩ : ∃ z, z = keyQ a2 := ⟨_, rfl⟩
  have HK1 := Lib.hid (fun (w' : World) (A : Assn) (h : Sat w w' A) => qkey_spec a1 (i64_of_wf w1) h)
  have HK2 := Lib.hid (fun (w' : World) (A : Assn) (h : Sat w w' A) => qkey_spec a2 (i64_of_wf w2) h)
  rw [← hk1] at HK1 hb1
  rw [← hk2] at HK2 hb2
  obtain ⟨lo, hlo⟩ : ∃ z, z = min k1 k2 := ⟨_, rfl⟩
  obtain ⟨hi, hhi⟩ : ∃ z, z = max k1 k2 := ⟨_, rfl⟩
  have elo : min k1 k2 = lo := hlo.symm
  have ehi : max k1 k2 = hi := hhi.symm
  have HBB := Lib.hid (show 0 ≤ lo ∧ lo ≤ hi ∧ hi ≤ 4095 by omega)
  clear hW w0 w1 w2 w3 w4 w5 hns hr0 h64 hb1 hb2 hk1 hk2 hlo hhi hh64
  go_enter Tryd.func9, Tryd.ntmps9
  go_wp2_with fail
  refine HM1.out.mono ?_
  rintro e w2 ⟨q1, J1, pa0, pc0, L, rfl, -, hLA, hLl, hLk, hJ1, hqR, hrL, hcL, h2⟩
  have c0 := hcL w2 h2.ext
  obtain ⟨nL, hnL⟩ : ∃ nL, nL = L.length := ⟨_, rfl⟩
  rw [← hnL] at c0 hrL hcL hLl
  have HF := Lib.hid (filled_lk HW.out pa0 nL pc0 L h2 hrL hnL (by omega) hLA hLk)
  have HL := Lib.hid (And.intro hLA (And.intro (show L.length ≤ 14 by omega) (lkP_lenS (L := L) (fun x hx => by have := (hLk x hx).2; omega))))
  have HJ1 := Lib.hid hJ1
  clear HM1 h2 hLA hLk hLl hqR hrL hcL hnL hJ1
  go_wp2_with fail
  refine HF.out.mono ?_
  rintro e w3 ⟨p1, rfl, h3⟩
  have HKA := Lib.hid (HK1.out w3 _ h3)
  clear HF h3 c0
  go_wp2_with fail
  refine HKA.out.mono ?_
  rintro e w4 ⟨rfl, h4⟩
  have HKB := Lib.hid (HK2.out w4 _ h4)
  clear HKA h4
  go_wp2_with fail
  refine HKB.out.mono ?_
  rintro e w5 ⟨rfl, h5⟩
  have HKC := Lib.hid (HK1.out w5 _ h5)
  clear HKB h5
  go_wp2_with fail
  refine HKC.out.mono ?_
  rintro e w6 ⟨rfl, h6⟩
  have HKD := Lib.hid (HK2.out w6 _ h6)
  clear HKC h6 HK1 HK2
  go_wp2_with fail
  refine HKD.out.mono ?_
  rintro e w7 ⟨rfl, h7⟩
  have HR1 := Lib.hid (arange_own HW.out p1 (lkP L) lo hi h7 HBB.out)
  clear HKD h7
  go_wp2_with fail
  refine HR1.out.mono ?_
  rintro e w8 ⟨pa, pn, pc, cells, ks, la, nl, lc, ta, nt, tc, sa, ns', sc, J2, hks, hJ2, rfl, hpn, hrows, hpr, h8⟩
  have h9 := h8.alloc (.cells #[.slice la nl lc, .slice ta nt tc, .slice sa ns' sc] 40)
  obtain ⟨x1, hx1⟩ : ∃ x1, x1 = w8.heap.size := ⟨_, rfl⟩
  obtain ⟨w9, hw9⟩ : ∃ z, z = w8.alloc (.cells #[.slice la nl lc, .slice ta nt tc, .slice sa ns' sc] 40) := ⟨_, rfl⟩
  rw [← hx1, ← hw9] at h9
  have HQ1 := Lib.hid (And.intro hx1 hw9)
  have hPl := pairsL_lenS HL.out.1 hks lo hi
  have hPS := rngP_S (lkP L) lo hi
  have hroot := aroot_spec HW.out p1 (lkP L) (show Sat w w9 (sep (isAM p1 (lkP L)) (sep (osl 84 2 pa pn pc cells) (sep (kn J2) (sep (blk x1 (.cells #[.slice la nl lc, .slice ta nt tc, .slice sa ns' sc] 40 (0, 0))) emp)))) by simpa only [sep_comm, sep_lcomm, sep_assoc] using h9)
  have key : ∃ (PL : PrL) (PR : Prf) (rt : Nat), pn = PL.length ∧ (rPairQ.rows 2).rel J2 cells PL ∧ prfR J2 (.agg #[.slice la nl lc, .slice ta nt tc, .slice sa ns' sc]) PR ∧ PL.length ≤ L.length ∧ PrfS PR ∧
      (Calls Tryd.prog 18 #[.pointer (some ⟨p1, 0, none⟩)] w9 fun e w' => e = .returned (.int .u64 (rt : Nat)) ∧ Sat w w' (sep (isAM p1 (lkP L)) (sep (osl 84 2 pa pn pc cells) (sep (kn J2) (sep (blk x1 (.cells #[.slice la nl lc, .slice ta nt tc, .slice sa ns' sc] 40 (0, 0))) emp))))) ∧
      (∀ root, checkP root lo hi PL PR = if rt = root then 0 else 10) ∧
      (∀ n : Nat, n < 2 → ∀ i j m h : Nat, h < 18446744073709551616 → PrfS (bentP PR (aroundI (n : Int) 8).toNat i j m h) ∧ (PR ≠ bentP PR (aroundI (n : Int) 8).toNat i j m h → checkP rt lo hi PL (bentP PR (aroundI (n : Int) 8).toNat i j m h) = 10)) ∧
      (∀ (n : Nat) (hn : n < PL.length) (i : Nat), i < PL[n].2.length → ∀ c : UInt8, checkP rt lo hi (PL.set n (PL[n].1, PL[n].2.set i c)) PR = if PL[n].2.set i c = PL[n].2 then 0 else 10) ∧ ∀ x ∈ PL, x.2.length ≤ 65536 := by
    refine ⟨pairsL (lkP L) lo hi ks, rngP (lkP L) lo hi, rootN (lkP L), hpn, hrows, hpr, hPl, hPS, hroot, check_root HBB.out hks HL.out.2.2, bent01 HBB.out hks HL.out.2.2, fun n hn i hi c => check_value HBB.out hks HL.out.2.2 hn hi c, fun y hy => ?_⟩
    obtain ⟨g1, g2, g3⟩ := pairsL_mem hy
    rw [g3]
    cases hm : lkP L y.1 with
    | none => simp
    | some v => exact HL.out.2.2 _ v hm
  clear hpn hrows hpr hPl hPS hroot
  obtain ⟨PL, PR, rt, hpn, hrows, hpr, hPl, hPS, hroot, hck0, hb01, hcv, hvl⟩ := key
  have hPl2 : PL.length ≤ 1000 := by have := HL.out.2.1; omega
  have HP := Lib.hid (And.intro hpn (And.intro hrows (And.intro hpr (And.intro hPl2 (And.intro hPS.ok hPS)))))
  have HCK := Lib.hid (And.intro hck0 (And.intro hb01 (And.intro hcv hvl)))
  have HRT := Lib.hid hroot
  have HJ2 := Lib.hid (Mem.le_trans HJ1.out hJ2)
  clear HR1 h8 h9 hx1 hw9 hpr hJ2 hks hpn hrows hPl hPl2 hPS hroot hck0 hb01 hcv hvl
  go_upto_region 8 with (fail)
  rw [← HQ1.out.1, ← HQ1.out.2]
  go_wp2_with fail
  refine HRT.out.mono ?_
  rintro e w10 ⟨rfl, h10⟩
  have h11 : Sat w w10 (sep (osl 84 2 pa pn pc cells) (sep (kn J2) (sep (blk x1 (.cells #[.slice la nl lc, .slice ta nt tc, .slice sa ns' sc] 40 (0, 0))) (sep (isAM p1 (lkP L)) emp)))) := by simpa only [sep_comm, sep_lcomm, sep_assoc] using h10
  have H11 := Lib.hid h11
  clear HRT h10 HQ1
  go_upto_region 9 with (fail)
  go_cut [70] (fun tv wx => tv = .bool false ∧ Hid (Sat w wx (sep (osl 84 2 pa pn pc cells) (sep (kn J2) (sep (blk x1 (.cells #[.slice la nl lc, .slice ta nt tc, .slice sa ns' sc] 40 (0, 0))) (sep (isAM p1 (lkP L)) emp))))))
  case first =>
    by_cases hhr : hh = rt
    · have g1 : ((hh : Int) != (rt : Int)) = false := by simp [hhr]
      clear h11 hhr
      go_wp2_with fail
      go_meet
      exact ⟨rfl, H11⟩
    · have g1 : ((hh : Int) != (rt : Int)) = true := by simp; omega
      have y0 : w10.cell? ⟨x1, 0, none⟩ = some (.slice la nl lc) := h11.p2.cell 0
      have y1 : w10.cell? ⟨x1, 1, none⟩ = some (.slice ta nt tc) := h11.p2.cell 1
      have y2 : w10.cell? ⟨x1, 2, none⟩ = some (.slice sa ns' sc) := h11.p2.cell 2
      have hc := acheck_own HW.out hh lo hi pa pn pc cells PL _ PR h11 HP.out.2.1 HP.out.1 (by have := HP.out.2.2.2.1; omega) HP.out.2.2.1 HP.out.2.2.2.2.1
      rw [HCK.out.1, if_neg (fun e => hhr e.symm)] at hc
      have HC := Lib.hid hc
      clear h11 hhr hc
      go_wp2_with fail
      refine HC.out.mono ?_
      rintro e w12 ⟨rfl, h12⟩
      have H12 := Lib.hid h12
      clear HC h12 y0 y1 y2
      go_wp2_with fail
      go_meet
      exact ⟨rfl, H12⟩
  case rest =>
    clear h11 H11
    obtain ⟨rfl, H11⟩ := hcut
    go_wp2_with fail
    go_loopw [21] (fun iv wr => ∃ (n : Nat) (J : Mem), n ≤ 2 ∧ iv = .int .i64 (n : Nat) ∧ Hid (Mem.le J2 J) ∧ Hid (Sat w wr (sep (osl 84 2 pa pn pc cells) (sep (kn J) (sep (blk x1 (.cells #[.slice la nl lc, .slice ta nt tc, .slice sa ns' sc] 40 (0, 0))) (sep (isAM p1 (lkP L)) emp)))))) (fun iv _ => 2 - (intOf iv).toNat)
    case atStart => exact ⟨0, J2, by omega, rfl, Lib.hid (Mem.le_refl _), H11⟩
    case round =>
      clear H11
      obtain ⟨n, J, hn, rfl, HJ, HS⟩ := hrel
      by_cases hn2 : n < 2
      · have g1 : (n : Int) < 2 := by omega
        have y0 : wr.cell? ⟨x1, 0, none⟩ = some (.slice la nl lc) := HS.out.p2.cell 0
        have y1 : wr.cell? ⟨x1, 1, none⟩ = some (.slice ta nt tc) := HS.out.p2.cell 1
        have y2 : wr.cell? ⟨x1, 2, none⟩ = some (.slice sa ns' sc) := HS.out.p2.cell 2
        have HB1 := Lib.hid (bare_spec la ta sa nl nt ns' lc tc sc HS.out)
        have hbent := fun (w' : World) (h : Sat w w' (sep (kn J) (sep (osl 84 2 pa pn pc cells) (sep (blk x1 (.cells #[.slice la nl lc, .slice ta nt tc, .slice sa ns' sc] 40 (0, 0))) (sep (isAM p1 (lkP L)) emp))))) => bent_spec (.agg #[.slice la nl lc, .slice ta nt tc, .slice sa ns' sc]) PR (n : Int) a3 hh h (prfR.mono HJ.out HP.out.2.2.1) HP.out.2.2.2.2.1 ⟨by omega, by omega⟩ HI.out.1 HI.out.2
        obtain ⟨QS, QC⟩ := HCK.out.2.1 n hn2 (aroundI a3 PR.l.length).toNat (aroundI a3 PR.r.length).toNat (aroundI a3 PR.s.length).toNat hh HI.out.2
        obtain ⟨QR, hQR⟩ : ∃ z, z = bentP PR (aroundI (n : Int) 8).toNat (aroundI a3 PR.l.length).toNat (aroundI a3 PR.r.length).toNat (aroundI a3 PR.s.length).toNat hh := ⟨_, rfl⟩
        rw [← hQR] at QS QC
        simp only [← hQR] at hbent
        have HBN := Lib.hid hbent
        have HQ := Lib.hid (And.intro QS QC)
        clear HS hbent QS QC hQR
        go_wp2_with fail
        refine HB1.out.mono ?_
        rintro e w12 ⟨rfl, h12⟩
        have HBE := Lib.hid (HBN.out w12 h12.p1)
        clear HB1 HBN h12 y0 y1 y2
        go_wp2_with fail
        refine HBE.out.mono ?_
        rintro e w13 ⟨J3, vq, hJ3, rfl, hpq, h13⟩
        obtain ⟨b1, m1, d1, b2, m2, d2, b3, m3, d3, rfl, -⟩ := prfR_form hpq
        have HPQ := Lib.hid (And.intro hpq hJ3)
        have HPR2 := Lib.hid (proof_spec b1 b2 b3 m1 m2 m3 d1 d2 d3 h13)
        clear HBE h13 hpq hJ3
        go_wp2_with fail
        refine HPR2.out.mono ?_
        rintro e w14 ⟨rfl, h14⟩
        have h15 := h14.alloc (.cells #[.slice b1 m1 d1, .slice b2 m2 d2, .slice b3 m3 d3] 40)
        obtain ⟨x2, hx2⟩ : ∃ z, z = w14.heap.size := ⟨_, rfl⟩
        obtain ⟨w15, hw15⟩ : ∃ z, z = w14.alloc (.cells #[.slice b1 m1 d1, .slice b2 m2 d2, .slice b3 m3 d3] 40) := ⟨_, rfl⟩
        rw [← hx2, ← hw15] at h15
        have HQ2 := Lib.hid (And.intro hx2 hw15)
        have hd : Sat w w15.drew (sep (kn J3) (sep (blk x2 (.cells #[.slice b1 m1 d1, .slice b2 m2 d2, .slice b3 m3 d3] 40 (0, 0))) (sep (osl 84 2 pa pn pc cells) (sep (blk x1 (.cells #[.slice la nl lc, .slice ta nt tc, .slice sa ns' sc] 40 (0, 0))) (sep (isAM p1 (lkP L)) emp))))) := h15.drew.p1
        obtain ⟨wd, hwd⟩ : ∃ z, z = w15.drew := ⟨_, rfl⟩
        rw [← hwd] at hd
        have hS0 : wd.cell? ⟨x2, 0, none⟩ = some (.slice b1 m1 d1) ∧ wd.cell? ⟨x2, 1, none⟩ = some (.slice b2 m2 d2) ∧ wd.cell? ⟨x2, 2, none⟩ = some (.slice b3 m3 d3) := ⟨hd.p1.cell 0, hd.p1.cell 1, hd.p1.cell 2⟩
        have y0 : wd.cell? ⟨x1, 0, none⟩ = some (.slice la nl lc) := hd.p3.cell 0
        have y1 : wd.cell? ⟨x1, 1, none⟩ = some (.slice ta nt tc) := hd.p3.cell 1
        have y2 : wd.cell? ⟨x1, 2, none⟩ = some (.slice sa ns' sc) := hd.p3.cell 2
        have HB2 := Lib.hid (bare_spec la ta sa nl nt ns' lc tc sc hd)
        have HWD := Lib.hid hwd
        have HJ3 := Lib.hid (Mem.le_trans HJ.out HPQ.out.2)
        clear HPR2 h14 h15 hx2 hw15 hd hwd
        go_upto_region 15 with (fail)
        rw [← HQ2.out.1, ← HQ2.out.2]
        refine wp_region_canon rfl (fun w' => w'.cell? ⟨x2, 0, none⟩ = some (.slice b1 m1 d1) ∧ w'.cell? ⟨x2, 1, none⟩ = some (.slice b2 m2 d2) ∧ w'.cell? ⟨x2, 2, none⟩ = some (.slice b3 m3 d3)) [(0, .t), (2, .s), (1, .e true), (3, .e false), (4, .e false), (5, .p), (6, .p), (7, .p), (8, .p), (9, .p), (10, .p), (11, .t), (12, .e false), (13, .p), (14, .p)] (by kernel_rfl) ?_
        rw [← HWD.out]
        (repeat (first | (refine C_p (v := ?_) rfl rfl (fun w' => ?_) ?_; rotate_left; (go_simp; with_reducible rfl); simp only [Act.put, List.setIfInBounds_toArray, List.set_cons_zero, List.set_cons_succ]) | (refine C_s (v := ?_) rfl rfl hS0 (fun w' hS => ?_) ?_; rotate_left; ((try dsimp only at hS); go_simp; with_reducible rfl); simp only [Act.put, List.setIfInBounds_toArray, List.set_cons_zero, List.set_cons_succ]) | (refine C_t (v := ?_) rfl rfl ?_ ?_; rotate_left; (go_simp; with_reducible rfl); simp only [Act.put, List.setIfInBounds_toArray, List.set_cons_zero, List.set_cons_succ]) | (refine C_po rfl rfl ?_; simp only [Act.put, List.setIfInBounds_toArray, List.set_cons_zero, List.set_cons_succ]) | (refine C_so rfl rfl hS0 ?_; simp only [Act.put, List.setIfInBounds_toArray, List.set_cons_zero, List.set_cons_succ]) | (refine C_to rfl rfl ?_; simp only [Act.put, List.setIfInBounds_toArray, List.set_cons_zero, List.set_cons_succ])))
        (refine C_e rfl rfl (fun K hK => ?_); go_simp)
        refine HB2.out.mono ?_
        rintro e w16 ⟨rfl, h16⟩
        have hS1 : w16.cell? ⟨x2, 0, none⟩ = some (.slice b1 m1 d1) ∧ w16.cell? ⟨x2, 1, none⟩ = some (.slice b2 m2 d2) ∧ w16.cell? ⟨x2, 2, none⟩ = some (.slice b3 m3 d3) := ⟨h16.p1.cell 0, h16.p1.cell 1, h16.p1.cell 2⟩
        have HB3 := Lib.hid (bare_spec b1 b2 b3 m1 m2 m3 d1 d2 d3 h16)
        clear HB2 h16 hS0 y0 y1 y2
        (refine hK _ _ (fun _ => hS1) ?_; clear hK K; (try simp only [Act.put, List.setIfInBounds_toArray, List.set_cons_zero, List.set_cons_succ]))
        clear hS1
        (refine C_e rfl rfl (fun K hK => ?_); go_simp)
        refine HB3.out.mono ?_
        rintro e w17 ⟨rfl, h17⟩
        have hsf := sameProof_spec _ _ PR QR h17 (prfR.mono HJ3.out HP.out.2.2.1) HPQ.out.1
        by_cases hq : PR = QR
        · rw [decide_eq_true hq] at hsf
          have HSF := Lib.hid hsf
          clear HB3 h17 hsf hq
          (refine hK _ _ (fun h => by cases h) ?_; clear hK K; (try simp only [Act.put, List.setIfInBounds_toArray, List.set_cons_zero, List.set_cons_succ]))
          (refine C_e rfl rfl (fun K hK => ?_); go_simp)
          refine HSF.out.mono ?_
          rintro e w18 ⟨rfl, h18⟩
          have H18 : Hid (Sat w w18 (sep (osl 84 2 pa pn pc cells) (sep (kn J3) (sep (blk x1 (.cells #[.slice la nl lc, .slice ta nt tc, .slice sa ns' sc] 40 (0, 0))) (sep (isAM p1 (lkP L)) emp))))) := Lib.hid (by
            have := (show Sat w w18 (sep (blk x2 (.cells #[.slice b1 m1 d1, .slice b2 m2 d2, .slice b3 m3 d3] 40 (0, 0))) (sep (kn J3) (sep (osl 84 2 pa pn pc cells) (sep (blk x1 (.cells #[.slice la nl lc, .slice ta nt tc, .slice sa ns' sc] 40 (0, 0))) (sep (isAM p1 (lkP L)) emp))))) from h18.p1).drop
            simpa only [sep_comm, sep_lcomm, sep_assoc] using this)
          clear HSF h18
          (refine hK _ _ (fun h => by cases h) ?_; clear hK K; (try simp only [Act.put, List.setIfInBounds_toArray, List.set_cons_zero, List.set_cons_succ]))
          (repeat (first | (refine C_p (v := ?_) rfl rfl (fun w' => ?_) ?_; rotate_left; (go_simp; with_reducible rfl); simp only [Act.put, List.setIfInBounds_toArray, List.set_cons_zero, List.set_cons_succ]) | (refine C_s (v := ?_) rfl rfl hS0 (fun w' hS => ?_) ?_; rotate_left; ((try dsimp only at hS); go_simp; with_reducible rfl); simp only [Act.put, List.setIfInBounds_toArray, List.set_cons_zero, List.set_cons_succ]) | (refine C_t (v := ?_) rfl rfl ?_ ?_; rotate_left; (go_simp; with_reducible rfl); simp only [Act.put, List.setIfInBounds_toArray, List.set_cons_zero, List.set_cons_succ]) | (refine C_po rfl rfl ?_; simp only [Act.put, List.setIfInBounds_toArray, List.set_cons_zero, List.set_cons_succ]) | (refine C_so rfl rfl hS0 ?_; simp only [Act.put, List.setIfInBounds_toArray, List.set_cons_zero, List.set_cons_succ]) | (refine C_to rfl rfl ?_; simp only [Act.put, List.setIfInBounds_toArray, List.set_cons_zero, List.set_cons_succ])))
          (refine C_eo rfl rfl (fun h => by first | (cases h; done) | exact hS0) ?_; simp only [Act.put, List.setIfInBounds_toArray, List.set_cons_zero, List.set_cons_succ])
          (repeat (first | (refine C_p (v := ?_) rfl rfl (fun w' => ?_) ?_; rotate_left; (go_simp; with_reducible rfl); simp only [Act.put, List.setIfInBounds_toArray, List.set_cons_zero, List.set_cons_succ]) | (refine C_s (v := ?_) rfl rfl hS0 (fun w' hS => ?_) ?_; rotate_left; ((try dsimp only at hS); go_simp; with_reducible rfl); simp only [Act.put, List.setIfInBounds_toArray, List.set_cons_zero, List.set_cons_succ]) | (refine C_t (v := ?_) rfl rfl ?_ ?_; rotate_left; (go_simp; with_reducible rfl); simp only [Act.put, List.setIfInBounds_toArray, List.set_cons_zero, List.set_cons_succ]) | (refine C_po rfl rfl ?_; simp only [Act.put, List.setIfInBounds_toArray, List.set_cons_zero, List.set_cons_succ]) | (refine C_so rfl rfl hS0 ?_; simp only [Act.put, List.setIfInBounds_toArray, List.set_cons_zero, List.set_cons_succ]) | (refine C_to rfl rfl ?_; simp only [Act.put, List.setIfInBounds_toArray, List.set_cons_zero, List.set_cons_succ])))
          refine C_nil ?_
          go_wp2_with fail
          go_roundw
          case rel => exact ⟨n + 1, J3, by omega, by go_num, HJ3, H18⟩
          case measure => simp only [intOf]; omega
        · rw [decide_eq_false hq] at hsf
          have HSF := Lib.hid hsf
          have hne := HQ.out.2 hq
          have HNE := Lib.hid hne
          clear HB3 h17 hsf hq hne
          (refine hK _ _ (fun h => by cases h) ?_; clear hK K; (try simp only [Act.put, List.setIfInBounds_toArray, List.set_cons_zero, List.set_cons_succ]))
          (refine C_e rfl rfl (fun K hK => ?_); go_simp)
          refine HSF.out.mono ?_
          rintro e w18 ⟨rfl, h18⟩
          have y0 : w18.cell? ⟨x2, 0, none⟩ = some (.slice b1 m1 d1) := h18.p1.cell 0
          have y1 : w18.cell? ⟨x2, 1, none⟩ = some (.slice b2 m2 d2) := h18.p1.cell 1
          have y2 : w18.cell? ⟨x2, 2, none⟩ = some (.slice b3 m3 d3) := h18.p1.cell 2
          have hc := acheck_own HW.out rt lo hi pa pn pc cells PL _ QR (show Sat w w18 (sep (osl 84 2 pa pn pc cells) (sep (kn J3) (sep (blk x2 (.cells #[.slice b1 m1 d1, .slice b2 m2 d2, .slice b3 m3 d3] 40 (0, 0))) (sep (blk x1 (.cells #[.slice la nl lc, .slice ta nt tc, .slice sa ns' sc] 40 (0, 0))) (sep (isAM p1 (lkP L)) emp))))) by simpa only [sep_comm, sep_lcomm, sep_assoc] using h18) ((rPairQ.rows 2).mono HJ3.out HP.out.2.1) HP.out.1 (by have := HP.out.2.2.2.1; omega) HPQ.out.1 HQ.out.1.ok
          rw [HNE.out] at hc
          have HC := Lib.hid hc
          clear HSF h18 hc
          (refine hK _ _ (fun h => by cases h) ?_; clear hK K; (try simp only [Act.put, List.setIfInBounds_toArray, List.set_cons_zero, List.set_cons_succ]))
          (repeat (first | (refine C_p (v := ?_) rfl rfl (fun w' => ?_) ?_; rotate_left; (go_simp; with_reducible rfl); simp only [Act.put, List.setIfInBounds_toArray, List.set_cons_zero, List.set_cons_succ]) | (refine C_s (v := ?_) rfl rfl hS0 (fun w' hS => ?_) ?_; rotate_left; ((try dsimp only at hS); go_simp; with_reducible rfl); simp only [Act.put, List.setIfInBounds_toArray, List.set_cons_zero, List.set_cons_succ]) | (refine C_t (v := ?_) rfl rfl ?_ ?_; rotate_left; (go_simp; with_reducible rfl); simp only [Act.put, List.setIfInBounds_toArray, List.set_cons_zero, List.set_cons_succ]) | (refine C_po rfl rfl ?_; simp only [Act.put, List.setIfInBounds_toArray, List.set_cons_zero, List.set_cons_succ]) | (refine C_so rfl rfl hS0 ?_; simp only [Act.put, List.setIfInBounds_toArray, List.set_cons_zero, List.set_cons_succ]) | (refine C_to rfl rfl ?_; simp only [Act.put, List.setIfInBounds_toArray, List.set_cons_zero, List.set_cons_succ])))
          (refine C_e rfl rfl (fun K hK => ?_); go_simp)
          refine HC.out.mono ?_
          rintro e w19 ⟨rfl, h19⟩
          have H19 : Hid (Sat w w19 (sep (osl 84 2 pa pn pc cells) (sep (kn J3) (sep (blk x1 (.cells #[.slice la nl lc, .slice ta nt tc, .slice sa ns' sc] 40 (0, 0))) (sep (isAM p1 (lkP L)) emp))))) := Lib.hid (by
            have := h19.p2.drop
            simpa only [sep_comm, sep_lcomm, sep_assoc] using this)
          clear HC h19 y0 y1 y2
          (refine hK _ _ (fun h => by cases h) ?_; clear hK K; (try simp only [Act.put, List.setIfInBounds_toArray, List.set_cons_zero, List.set_cons_succ]))
          (repeat (first | (refine C_p (v := ?_) rfl rfl (fun w' => ?_) ?_; rotate_left; (go_simp; with_reducible rfl); simp only [Act.put, List.setIfInBounds_toArray, List.set_cons_zero, List.set_cons_succ]) | (refine C_s (v := ?_) rfl rfl hS0 (fun w' hS => ?_) ?_; rotate_left; ((try dsimp only at hS); go_simp; with_reducible rfl); simp only [Act.put, List.setIfInBounds_toArray, List.set_cons_zero, List.set_cons_succ]) | (refine C_t (v := ?_) rfl rfl ?_ ?_; rotate_left; (go_simp; with_reducible rfl); simp only [Act.put, List.setIfInBounds_toArray, List.set_cons_zero, List.set_cons_succ]) | (refine C_po rfl rfl ?_; simp only [Act.put, List.setIfInBounds_toArray, List.set_cons_zero, List.set_cons_succ]) | (refine C_so rfl rfl hS0 ?_; simp only [Act.put, List.setIfInBounds_toArray, List.set_cons_zero, List.set_cons_succ]) | (refine C_to rfl rfl ?_; simp only [Act.put, List.setIfInBounds_toArray, List.set_cons_zero, List.set_cons_succ])))
          refine C_nil ?_
          go_wp2_with fail
          go_roundw
          case rel => exact ⟨n + 1, J3, by omega, by go_num, HJ3, H19⟩
          case measure => simp only [intOf]; omega
      · have en : n = 2 := by omega
        subst en
        have g1 : ¬ ((2 : Nat) : Int) < 2 := by omega
        have HFIN : Hid (∀ (w' : World) (J' : Mem) (A' : Assn), Sat w w' (sep (kn J') A') → Calls Tryd.prog 24 #[] w' fun e w2 => e = .returned (.bool true) ∧ Below w.heap.size w w2) := Lib.hid (fun w' J' A' h => (lives33_spec HW.out h).mono fun e w2 ⟨h1, h2⟩ => ⟨h1, h2.below⟩)
        by_cases hp0 : pn = 0
        · have g2 : ((pn : Int) == 0) = true := by simp [hp0]
          have HV := Lib.hid (HFIN.out wr _ _ HS.out.p1)
          clear HS hn2 hp0
          go_wp2_with fail
          refine HV.out.mono ?_
          rintro e w12 ⟨rfl, hB⟩
          have HB := Lib.hid hB
          clear HV hB
          go_wp2_with fail
          go_ret
          exact ⟨rfl, HB.out⟩
        · have g2 : ((pn : Int) == 0) = false := by simp; omega
          obtain ⟨r1, r2⟩ := aroundI_lt a3 (pn : Int) (by omega)
          obtain ⟨j, hj⟩ : ∃ j : Nat, aroundI a3 pn = j := ⟨(aroundI a3 pn).toNat, by omega⟩
          have hpn1 : pn ≤ 1000 := by have := HP.out.2.2.2.1; have := HP.out.1; omega
          have har := around_spec a3 (pn : Int) wr HI.out.1.1 HI.out.1.2 (by omega) (by omega)
          rw [hj] at har r1 r2
          have HAR := Lib.hid har
          have hjp : j < pn := by omega
          have hjP : j < PL.length := by rw [← HP.out.1]; exact hjp
          have hjI : (j : Int) < (pn : Int) := by omega
          clear har hj r1 r2 hn2 hp0
          go_wp2_with fail
          refine HAR.out.mono ?_
          rintro e w' ⟨rfl, rfl⟩
          obtain ⟨⟨ua, uc, ck0, ck1, hrV⟩, -⟩ := rows_setQ (J := J) ((rPairQ.rows 2).mono HJ.out HP.out.2.1) hjP none 0 [] ⟨none, 0, [], rfl, ⟨Nat.le_refl _, Nat.zero_le _, fun _ => rfl⟩, .inl rfl, [], rfl, trivial⟩
          obtain ⟨hlt1, hv1⟩ := List.getElem?_eq_some_iff.1 ck1
          have hS2 := (HS.out.alloc (.cells #[] 5)).osl_mk 0 0 1 [] rfl (by omega) (by unfold maxLen; omega) rfl rfl
          obtain ⟨g, hg, hcl, -, -⟩ := osl_setKs hS2.p1 (j * 2 + 1) hlt1 (.int .i64 0)
          rw [hv1] at hcl
          subst hg
          have hvl := HCK.out.2.2.2 _ (List.getElem_mem hjP)
          have hcv := HCK.out.2.2.1 j hjP
          have hset := fun (J' : Mem) (hle : Mem.le J2 J') (va : Option Addr) (vc : Nat) (v : List UInt8) (hv : rBytes.rel J' [.slice va v.length vc] v) => (rows_setQ ((rPairQ.rows 2).mono hle HP.out.2.1) hjP va vc v hv).2
          obtain ⟨V, hV⟩ : ∃ z, z = PL[j].2 := ⟨_, rfl⟩
          obtain ⟨kj, hkj⟩ : ∃ z, z = PL[j].1 := ⟨_, rfl⟩
          rw [← hV] at hrV hcl hvl hcv ck1
          rw [← hkj] at hcv
          simp only [← hkj] at hset
          have hVl : V.length ≤ 65536 := hvl
          obtain ⟨nV, hnV⟩ : ∃ z, z = V.length := ⟨_, rfl⟩
          rw [← hnV] at hrV hcl hVl ck1
          have HOK := Lib.hid (rel_okQ hS2.p2 hrV)
          have HCV := Lib.hid (And.intro hcv (And.intro hnV (And.intro hrV (And.intro hset (And.intro hlt1 ck1)))))
          clear HAR HS hrV hvl hcv hset hnV hV hkj ck0 ck1 hv1 hlt1 hjP
          go_wp2_with (at_builtin; refine wpl_append_osl rfl (.tmp 105) (.tmp 110) 32 rfl 5 1 1 (.int .u8 0) Tryd.underlying32 infoU8w rfl rfl hS2 rfl (V.map bv) HOK.out.len HOK.out.nil HOK.out.src HOK.out.one (by omega) (by unfold maxLen; omega) ?_)
          intro va vc w20 h20
          clear hS2 HOK hcl
          by_cases hv0 : nV = 0
          · have g3 : ((nV : Int) == 0) = true := by simp [hv0]
            have HV := Lib.hid (HFIN.out w20 J _ (show Sat w w20 (sep (kn J) (sep (osl 5 1 va nV vc (V.map bv)) (sep (osl 84 2 (some ⟨g, 0, none⟩) pn pc cells) (sep (blk x1 (.cells #[.slice la nl lc, .slice ta nt tc, .slice sa ns' sc] 40 (0, 0))) (sep (isAM p1 (lkP L)) emp))))) by simpa only [sep_comm, sep_lcomm, sep_assoc] using h20))
            clear h20 hv0
            go_wp2_with fail
            refine HV.out.mono ?_
            rintro e w21 ⟨rfl, hB⟩
            have HB := Lib.hid hB
            clear HV hB
            go_wp2_with fail
            go_ret
            exact ⟨rfl, HB.out⟩
          · have g3 : ((nV : Int) == 0) = false := by simp; omega
            obtain ⟨aq, haq⟩ : ∃ z, z = a3.tdiv 16 := ⟨_, rfl⟩
            have hI3 := HI.out.1
            have haqb : -9223372036854775808 ≤ aq ∧ aq ≤ 9223372036854775807 := by
              rw [haq]
              have := hI3.1
              have := hI3.2
              rcases Int.le_total 0 a3 with h0 | h0
              · rw [Int.tdiv_eq_ediv_of_nonneg h0]; omega
              · have : a3.tdiv 16 = -((-a3) / 16) := by
                  rw [← Int.tdiv_eq_ediv_of_nonneg (by omega : 0 ≤ -a3), Int.neg_tdiv, Int.neg_neg]
                rw [this]; omega
            have hqd : a3.tdiv 16 = aq := haq.symm
            have hq1 := haqb.1
            have hq2 := haqb.2
            obtain ⟨r1, r2⟩ := aroundI_lt aq (nV : Int) (by omega)
            obtain ⟨k, hk⟩ : ∃ k : Nat, aroundI aq nV = k := ⟨(aroundI aq nV).toNat, by omega⟩
            have hnV5 : nV ≤ 65536 := hVl
            have har := around_spec aq (nV : Int) w20 haqb.1 haqb.2 (by omega) (by omega)
            rw [hk] at har r1 r2
            have HAR := Lib.hid har
            have hkn : k < nV := by omega
            have hkI : (k : Int) < (nV : Int) := by omega
            have hkV : k < V.length := by rw [← HCV.out.2.1]; exact hkn
            obtain ⟨gv, rfl, hgc, hgf, hset⟩ := h20.osl_set k (by rw [List.length_map]; exact hkV) (.int .u8 (x.toNat : Int))
            obtain ⟨vx, hvx⟩ : ∃ vx, w20.cell? ⟨gv, k, none⟩ = some vx := ⟨_, hgc⟩
            have hchk := HCV.out.1 k hkV x
            obtain ⟨T, hT⟩ : ∃ T, T = V.set k x := ⟨_, rfl⟩
            have hTl : nV = T.length := by rw [hT, List.length_set]; exact HCV.out.2.1
            have hs2 : (V.map bv).set k (.int .u8 (x.toNat : Int)) = T.map bv := by rw [hT, List.map_set]; rfl
            rw [hs2] at hset
            rw [← hT] at hchk
            obtain ⟨J5, hJ5, hvT, h21⟩ := osl_learnQ (show Sat w (w20.setCell ⟨gv, k, none⟩ (.int .u8 (x.toNat : Int))) (sep (osl 5 1 (some ⟨gv, 0, none⟩) nV vc (T.map bv)) (sep (kn J) (sep (osl 84 2 (some ⟨g, 0, none⟩) pn pc cells) (sep (blk x1 (.cells #[.slice la nl lc, .slice ta nt tc, .slice sa ns' sc] 40 (0, 0))) (sep (isAM p1 (lkP L)) emp))))) by simpa only [sep_comm, sep_lcomm, sep_assoc] using hset) hTl
            obtain ⟨w21, hw21⟩ : ∃ z, z = w20.setCell ⟨gv, k, none⟩ (.int .u8 (x.toNat : Int)) := ⟨_, rfl⟩
            rw [← hw21] at h21
            have HW21 := Lib.hid hw21
            have hrV5 := rBytes.mono hJ5 HCV.out.2.2.1
            have hlt1 := HCV.out.2.2.2.2.1
            obtain ⟨_, hv1⟩ := List.getElem?_eq_some_iff.1 HCV.out.2.2.2.2.2
            have hrows5 := HCV.out.2.2.2.1 J5 (Mem.le_trans HJ.out hJ5) (some ⟨gv, 0, none⟩) vc T (by rw [← hTl]; exact hvT)
            rw [← hTl] at hrows5
            obtain ⟨g', eg, hcl, -, -⟩ := osl_setKs h21.p1 (j * 2 + 1) hlt1 (.slice (some ⟨gv, 0, none⟩) nV vc)
            cases eg
            rw [hv1] at hcl
            have hsb := sameBytes_kn _ _ T V h21 hvT hrV5
            obtain ⟨bT, hbT⟩ : ∃ z : Bool, z = decide (T = V) := ⟨_, rfl⟩
            have hchk2 : checkP rt lo hi (PL.set j (kj, T)) PR = if bT = true then 0 else 10 := by
              rw [hchk, hbT]
              by_cases e : T = V
              · rw [if_pos e, decide_eq_true e]; rfl
              · rw [if_neg e, decide_eq_false e]; rfl
            rw [← hbT] at hsb
            have HSB := Lib.hid hsb
            have HCK2 := Lib.hid (And.intro hchk2 (And.intro hrows5 (And.intro hlt1 (Mem.le_trans HJ.out hJ5))))
            clear hgc h20 hset hs2 hT hTl hvT h21 hw21 hrV5 hv1 hrows5 hchk hchk2 hlt1 hsb hbT hJ5 hkV hk haq haqb hI3 hv0
            go_wp2_with fail
            refine HAR.out.mono ?_
            rintro e w' ⟨rfl, rfl⟩
            clear HAR
            go_upto_region 24 with (fail)
            rw [← HW21.out]
            clear hgf hvx
            go_wp2_with fail
            refine HSB.out.mono ?_
            rintro e w22 ⟨rfl, h22⟩
            clear HSB hcl HW21
            obtain ⟨g', eg, hcl2, hfz, h23⟩ := osl_setKs h22.p1 (j * 2 + 1) HCK2.out.2.2.1 (.slice (some ⟨gv, 0, none⟩) nV vc)
            cases eg
            obtain ⟨w23, hw23⟩ : ∃ z, z = w22.setCell ⟨g, j * 2 + 1, none⟩ (.slice (some ⟨gv, 0, none⟩) nV vc) := ⟨_, rfl⟩
            rw [← hw23] at h23
            have HW23 := Lib.hid hw23
            obtain ⟨vx, hvx⟩ : ∃ vx, w22.cell? ⟨g, j * 2 + 1, none⟩ = some vx := ⟨_, hcl2⟩
            have y0 : w23.cell? ⟨x1, 0, none⟩ = some (.slice la nl lc) := h23.p2.cell 0
            have y1 : w23.cell? ⟨x1, 1, none⟩ = some (.slice ta nt tc) := h23.p2.cell 1
            have y2 : w23.cell? ⟨x1, 2, none⟩ = some (.slice sa ns' sc) := h23.p2.cell 2
            have hc := acheck_own HW.out rt lo hi (some ⟨g, 0, none⟩) pn pc _ (PL.set j (kj, T)) _ PR h23 HCK2.out.2.1 (by rw [List.length_set]; exact HP.out.1) (by rw [List.length_set]; have := HP.out.2.2.2.1; omega) (prfR.mono HCK2.out.2.2.2 HP.out.2.2.1) HP.out.2.2.2.2.1
            rw [HCK2.out.1] at hc
            cases bT with
            | true =>
              rw [if_pos rfl] at hc
              have HC := Lib.hid hc
              clear h22 h23 hw23 hc hcl2
              go_upto_region 26 with (fail)
              rw [← HW23.out]
              clear hfz hvx
              go_wp2_with fail
              refine HC.out.mono ?_
              rintro e w24 ⟨rfl, h24⟩
              have HV := Lib.hid (HFIN.out w24 _ _ h24.p1)
              clear HC h24 y0 y1 y2
              go_wp2_with fail
              refine HV.out.mono ?_
              rintro e w25 ⟨rfl, hB⟩
              have HB := Lib.hid hB
              clear HV hB
              go_wp2_with fail
              go_ret
              exact ⟨rfl, HB.out⟩
            | false =>
              rw [if_neg (by simp)] at hc
              have HC := Lib.hid hc
              clear h22 h23 hw23 hc hcl2
              go_upto_region 26 with (fail)
              rw [← HW23.out]
              clear hfz hvx
              go_wp2_with fail
              refine HC.out.mono ?_
              rintro e w24 ⟨rfl, h24⟩
              have HV := Lib.hid (HFIN.out w24 _ _ h24.p1)
              clear HC h24 y0 y1 y2
              go_wp2_with fail
              refine HV.out.mono ?_
              rintro e w25 ⟨rfl, hB⟩
              have HB := Lib.hid hB
              clear HV hB
              go_wp2_with fail
              go_ret
              exact ⟨rfl, HB.out⟩
end Go.Proofs.YtcmjbjlliehdiaaDoor
