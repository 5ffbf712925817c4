/- AuthmapHistory, the walk. -/
import Derived.Test.YtcmjbjlliehdiaaDoorQy
import Derived.Test.YtcmjbjlliehdiaaDoorFe
import Derived.Lib.SlBytesConst
namespace Go.Proofs.YtcmjbjlliehdiaaDoor
open Go.RowKit PA
attribute [local go_sem] Oper.semAt_some
def otherL : List UInt8 := [111, 116, 104, 101, 114]
set_option maxRecDepth 100000 in
set_option maxHeartbeats 16000000 in
theorem authmapHistory_walk (a0 : Option Addr) (len0 cap0 : Nat) (z0 : List Int) (a1 : Option Addr) (len1 cap1 : Nat) (z1 : List Int) (a2 : Int) (a3 : Int) (w : World) (hW : WholeOK w)
    (w0 : IsArg w a0 len0 cap0 z0) (w1 : IsArg w a1 len1 cap1 z1) (w2 : (Lit.int .i64 a2).wf = true) (w3 : (Lit.int .i64 a3).wf = true) :
    Calls Tryd.prog 3 #[.slice a0 len0 cap0, .slice a1 len1 cap1, .int .i64 a2, .int .i64 a3] w fun e w' => e = .returned (.bool true) ∧ Below w.heap.size w w' := by
  obtain ⟨ns, hns, hr0, h64⟩ := argI w0
  obtain ⟨ms, hms, hr1, h64'⟩ := argI w1
  have HM1 := Lib.hid (made_kn a0 len0 cap0 ns 12 (by omega) hns h64 hr0 (Sat.startKn w))
  have HMS := Lib.hid (And.intro hms (And.intro hr1 h64'))
  have HK2 := Lib.hid (And.intro (i64_of_wf w2) (i64_of_wf w3))
  have HW := Lib.hid hW
  clear hW w0 w1 w2 w3 hns hr0 h64 hms hr1 h64'
  have kc := fun (w : World) (C : Array Value) (n c : Nat) => Lib.run_convert_bytes_const (P := Tryd.prog) w 32 5 C n c Tryd.underlying32 Tryd.underlying5
  go_enter Tryd.func3, Tryd.ntmps3
  go_wp2_with fail
  refine HM1.out.mono ?_
  rintro e w2 ⟨q1, J1, pa, pc, L, rfl, -, hLA, hLl, hLk, hJ1, hqR, hrL, hcL, h2⟩
  have c0 := hcL w2 h2.ext
  obtain ⟨nL, hnL⟩ : ∃ nL, nL = L.length := ⟨_, rfl⟩
  rw [← hnL] at c0 hrL hcL hLl
  have HF := Lib.hid (filled_lk HW.out pa nL pc L h2 hrL hnL (by omega) hLA hLk)
  have HL := Lib.hid (And.intro hLA (And.intro hLk (And.intro hqR (And.intro hrL (And.intro hcL hnL)))))
  have HJ1 := Lib.hid hJ1
  clear HM1 h2 hLA hLk hqR hrL hcL hnL hJ1
  go_wp2_with fail
  refine HF.out.mono ?_
  rintro e w3 ⟨p1, rfl, h3⟩
  have HM2 := Lib.hid (made_kn a1 len1 cap1 ms 8 (by omega) HMS.out.1 HMS.out.2.2 ((rInt.slice 1).mono HJ1.out HMS.out.2.1) (show Sat w w3 (sep (kn J1) (sep (isAM p1 (lkP L)) emp)) by simpa only [sep_comm, sep_lcomm, sep_assoc] using h3))
  clear HF h3 c0
  go_wp2_with fail
  refine HM2.out.mono ?_
  rintro e w4 ⟨q2, J2, ea, ec, E, rfl, hE, hEA, hEl, hEk, hJ2, -, hrE, hcE, h4⟩
  have c0 := hcE w4 h4.ext
  obtain ⟨nE, hnE⟩ : ∃ nE, nE = E.length := ⟨_, rfl⟩
  rw [← hnE] at c0 hrE hcE hEl
  have HF := Lib.hid (filled_lk HW.out ea nE ec E h4 hrE hnE (by omega) hEA hEk)
  have HE := Lib.hid (And.intro hE (And.intro hEA (And.intro hEk hnE)))
  have HJ2 := Lib.hid hJ2
  clear HM2 h4 hE hEA hEk hrE hcE hnE hJ2
  go_wp2_with fail
  refine HF.out.mono ?_
  rintro e w5 ⟨p2, rfl, h5⟩
  have c1 : w5.cell? ⟨q1, 0, none⟩ = some (.slice pa nL pc) := HL.out.2.2.2.2.1 w5 (fun b o hb => h5.p1.ext b o (HJ2.out b o hb))
  have H5 : Hid (Sat w w5 (sep (isAM p2 (ovr (L.drop nL) (lkP E))) (sep (kn J2) (sep (isAM p1 (lkP L)) emp)))) := Lib.hid (by
    rw [List.drop_of_length_le (by rw [HL.out.2.2.2.2.2]; exact Nat.le_refl _), ovr_nil]
    exact h5)
  clear HF h5 c0
  go_wp2_with fail
  go_loopw [12] (fun iv wr => ∃ (j : Nat) (J : Mem), j ≤ nL ∧ iv = .int .i64 ((j : Int) - 1) ∧ Hid (Mem.le J2 J) ∧ Sat w wr (sep (isAM p2 (ovr (L.drop j) (lkP E))) (sep (kn J) (sep (isAM p1 (lkP L)) emp)))) (fun iv _ => (intOf iv + 1).toNat)
  case atStart => exact ⟨nL, J2, Nat.le_refl _, rfl, Lib.hid (Mem.le_refl _), H5.out⟩
  case round =>
    clear H5
    obtain ⟨j, J, hj, rfl, HJ, hS⟩ := hrel
    by_cases hj0 : j = 0
    · subst hj0
      have g1 : ¬ (0 : Int) ≤ ((0 : Nat) : Int) - 1 := by omega
      have HM3 := Lib.hid (made_kn a1 len1 cap1 ms 8 (by omega) HMS.out.1 HMS.out.2.2 ((rInt.slice 1).mono (Mem.le_trans HJ1.out (Mem.le_trans HJ2.out HJ.out)) HMS.out.2.1) (show Sat w wr (sep (kn J) (sep (isAM p2 (ovr (L.drop 0) (lkP E))) (sep (isAM p1 (lkP L)) emp))) by simpa only [sep_comm, sep_lcomm, sep_assoc] using hS))
      clear hS hj
      go_wp2_with fail
      refine HM3.out.mono ?_
      rintro e w6 ⟨q3, J3, xa, xc, E2, rfl, hE2, -, -, -, hJ3, hqE, hrE, hcE, h6⟩
      rw [← HE.out.1] at hE2
      subst hE2
      rw [← HE.out.2.2.2] at hrE hcE
      have HJ3 := Lib.hid (Mem.le_trans HJ.out hJ3)
      have HX := Lib.hid (And.intro hrE hcE)
      have H6 : Hid (Sat w w6 (sep (kn J3) (sep (isAM p2 (ovr L (lkP (E2.drop 0)))) (sep (isAM p1 (lkP L)) emp)))) := Lib.hid h6
      clear HM3 hJ3 hqE hrE hcE h6 g1 c1
      go_wp2_with fail
      go_loopw [14] (fun iv wr => ∃ i : Nat, i ≤ nE ∧ iv = .int .i64 (i : Nat) ∧ Sat w wr (sep (kn J3) (sep (isAM p2 (ovr L (lkP (E2.drop i)))) (sep (isAM p1 (lkP L)) emp)))) (fun iv _ => nE - (intOf iv).toNat)
      case atStart => exact ⟨0, Nat.zero_le _, rfl, H6.out⟩
      case round =>
        clear H6
        obtain ⟨i, hi, rfl, hS⟩ := hrel
        have c3 := HX.out.2 wr hS.ext
        by_cases hin : i < nE
        · have g1 : (i : Int) < (nE : Int) := by omega
          have hiE : i < E2.length := by rw [← HE.out.2.2.2]; exact hin
          obtain ⟨b, o, va, vc, rfl, hcx, -⟩ := pair_ext HX.out.1 i hiE
          have f0 := (hcx wr hS.ext).1
          have hxk := (HE.out.2.2.1 _ (List.getElem_mem hiE)).1
          have hskip := ovr_skip (L := L) hiE
          have hdel := ovr_del (L := L) HE.out.2.1 hiE
          have hfind := qfind_kn q1 L E2[i].1 HL.out.1 (qmR.mono (Mem.le_trans HJ2.out HJ3.out) HL.out.2.2.1) hS (by rw [← HL.out.2.2.2.2.2]; omega)
          have hlt := lk_find HL.out.1 E2[i].1
          obtain ⟨k, hk⟩ : ∃ z, z = E2[i].1 := ⟨_, rfl⟩
          rw [← hk] at f0 hxk hskip hdel hfind hlt
          obtain ⟨fk, hfk⟩ : ∃ z, z = findP L k := ⟨_, rfl⟩
          rw [← hfk] at hfind hlt
          have HFI := Lib.hid hfind
          have hcB : Hid (wr.cell? ⟨q3, 0, none⟩ = some (.slice (some ⟨b, o, none⟩) nE xc) ∧ wr.cell? ⟨b, o + i * 2, none⟩ = some (.int .i64 k)) := Lib.hid ⟨c3, f0⟩
          cases hlk : lkP L k with
          | none =>
            have gf : fk < 0 := hlt.2 hlk
            have hd := hdel hlk
            have HDL := Lib.hid (adel_ok HW.out p2 _ k (show Sat w wr (sep (isAM p2 (ovr L (lkP (E2.drop i)))) (sep (kn J3) (sep (isAM p1 (lkP L)) emp))) by simpa only [sep_comm, sep_lcomm, sep_assoc] using hS) hxk hd.2)
            rw [hd.1] at HDL
            clear hS hcx hxk hskip hdel hfind hlt hk hfk hd hlk hiE hin
            go_wp2_with fail
            refine HFI.out.mono ?_
            rintro e w' ⟨rfl, rfl⟩
            go_wp2_with fail
            refine HDL.out.mono ?_
            rintro e w7 ⟨rfl, h7⟩
            have H7 := Lib.hid h7
            clear HFI HDL h7 c3 f0 hcB
            go_wp2_with fail
            go_roundw
            case rel => exact ⟨i + 1, by omega, by go_num, by simpa only [sep_comm, sep_lcomm, sep_assoc] using H7.out⟩
            case measure => simp only [intOf]; omega
          | some v =>
            have gf : ¬ fk < 0 := fun h => by have := hlt.1 h; rw [hlk] at this; cases this
            have hd := hskip (by rw [hlk]; simp)
            have H7 : Hid (Sat w wr (sep (kn J3) (sep (isAM p2 (ovr L (lkP (E2.drop (i + 1))))) (sep (isAM p1 (lkP L)) emp)))) := Lib.hid (by rw [← hd]; exact hS)
            clear hS hcx hxk hskip hdel hfind hlt hk hfk hd hlk hiE hin
            go_wp2_with fail
            refine HFI.out.mono ?_
            rintro e w' ⟨rfl, rfl⟩
            clear HFI c3 f0 hcB
            go_wp2_with fail
            go_roundw
            case rel => exact ⟨i + 1, by omega, by go_num, H7.out⟩
            case measure => simp only [intOf]; omega
        · have g1 : ¬ (i : Int) < (nE : Int) := by omega
          have hdr : E2.drop i = [] := List.drop_of_length_le (by rw [← HE.out.2.2.2]; omega)
          rw [hdr, ovr_end] at hS
          obtain ⟨k2, hk2⟩ : ∃ z, z = keyQ a2 := ⟨_, rfl⟩
          obtain ⟨k3, hk3⟩ : ∃ z, z = keyQ a3 := ⟨_, rfl⟩
          have hr2 := keyQ_range a2
          have hr3 := keyQ_range a3
          have HK := Lib.hid (fun (w' : World) (A : Assn) (h : Sat w w' A) => qkey_spec a2 HK2.out.1 h)
          have HK3 := Lib.hid (fun (w' : World) (A : Assn) (h : Sat w w' A) => qkey_spec a3 HK2.out.2 h)
          rw [← hk2] at HK hr2
          rw [← hk3] at HK3 hr3
          obtain ⟨lo, hlo⟩ : ∃ z, z = min k2 k3 := ⟨_, rfl⟩
          obtain ⟨hi', hhi⟩ : ∃ z, z = max k2 k3 := ⟨_, rfl⟩
          have hb : 0 ≤ lo ∧ lo ≤ hi' ∧ hi' ≤ 4095 := by omega
          have elo : min k2 k3 = lo := hlo.symm
          have ehi : max k2 k3 = hi' := hhi.symm
          have HKA := Lib.hid (HK.out wr _ hS)
          have HBB := Lib.hid hb
          clear hS hk2 hk3 hr2 hr3 hlo hhi hdr hin hi hb
          go_wp2_with fail
          refine HKA.out.mono ?_
          rintro e w7 ⟨rfl, h7⟩
          have HKB := Lib.hid (HK3.out w7 _ h7)
          clear HKA h7 c3 g1
          go_wp2_with fail
          refine HKB.out.mono ?_
          rintro e w8 ⟨rfl, h8⟩
          have HKC := Lib.hid (HK.out w8 _ h8)
          clear HKB h8
          go_wp2_with fail
          refine HKC.out.mono ?_
          rintro e w9 ⟨rfl, h9⟩
          have HKD := Lib.hid (HK3.out w9 _ h9)
          clear HKC h9 HK HK3
          go_wp2_with fail
          refine HKD.out.mono ?_
          rintro e w10 ⟨rfl, h10⟩
          have HR1 := Lib.hid (arange_kn HW.out p1 (lkP L) lo hi' (show Sat w w10 (sep (isAM p1 (lkP L)) (sep (kn J3) (sep (isAM p2 (lkP L)) emp))) by simpa only [sep_comm, sep_lcomm, sep_assoc] using h10) HBB.out)
          clear HKD h10
          go_wp2_with fail
          refine HR1.out.mono ?_
          rintro e w11 ⟨ra, rn, rc, ks, la, nl, lc, ta, nt, tc, sa, ns', sc, K1, hks, hK1, rfl, hrn, hrr, hpr, h11⟩
          have h12 := h11.alloc (.cells #[.slice la nl lc, .slice ta nt tc, .slice sa ns' sc] 40)
          obtain ⟨x1, hx1⟩ : ∃ x1, x1 = w11.heap.size := ⟨_, rfl⟩
          obtain ⟨w12, hw12⟩ : ∃ w12, w12 = w11.alloc (.cells #[.slice la nl lc, .slice ta nt tc, .slice sa ns' sc] 40) := ⟨_, rfl⟩
          rw [← hx1, ← hw12] at h12
          have HQ1 := Lib.hid (And.intro hx1 hw12)
          have HR2 := Lib.hid (arange_kn HW.out p2 (lkP L) lo hi' (show Sat w w12 (sep (isAM p2 (lkP L)) (sep (kn K1) (sep (isAM p1 (lkP L)) (sep (blk x1 (.cells #[.slice la nl lc, .slice ta nt tc, .slice sa ns' sc] 40 (0, 0))) emp)))) by simpa only [sep_comm, sep_lcomm, sep_assoc] using h12) HBB.out)
          have H1 := Lib.hid (And.intro hks (And.intro hrn (And.intro hrr hpr)))
          clear HR1 h11 h12 hx1 hw12 hks hrn hrr hpr hK1
          go_upto_region 20 with (fail)
          rw [← HQ1.out.1, ← HQ1.out.2]
          go_wp2_with fail
          refine HR2.out.mono ?_
          rintro e w13 ⟨ra2, rn2, rc2, ks2, la2, nl2, lc2, ta2, nt2, tc2, sa2, ns2, sc2, K2, hks2, hK2, rfl, hrn2, hrr2, hpr2, h13⟩
          have h14 := h13.alloc (.cells #[.slice la2 nl2 lc2, .slice ta2 nt2 tc2, .slice sa2 ns2 sc2] 40)
          obtain ⟨x2, hx2⟩ : ∃ x2, x2 = w13.heap.size := ⟨_, rfl⟩
          obtain ⟨w14, hw14⟩ : ∃ w14, w14 = w13.alloc (.cells #[.slice la2 nl2 lc2, .slice ta2 nt2 tc2, .slice sa2 ns2 sc2] 40) := ⟨_, rfl⟩
          rw [← hx2, ← hw14] at h14
          obtain rfl := akeys_unique hks2 H1.out.1
          obtain ⟨PL, hPL⟩ : ∃ z, z = pairsL (lkP L) lo hi' ks2 := ⟨_, rfl⟩
          have hPl : PL.length ≤ 1000000 := by
            have h1 := (pairs_form hrr2)
            obtain ⟨_, _, _, h1⟩ := h1
            rw [hPL]
            have h3 : (pairsL (lkP L) lo hi' ks2).length ≤ ks2.length := by unfold pairsL; rw [List.length_map]; exact List.length_filter_le _ _
            have h4 := akeys_len HL.out.1 H1.out.1
            rw [← HL.out.2.2.2.2.2] at h4
            omega
          obtain ⟨PR, hPR⟩ : ∃ z, z = rngP (lkP L) lo hi' := ⟨_, rfl⟩
          rw [← hPL] at hrn2 hrr2
          rw [← hPR] at hpr2
          have H1' : Hid (rn = PL.length ∧ (rPairQ.slice 2).rel K2 [.slice ra rn rc] PL ∧ prfR K2 (.agg #[.slice la nl lc, .slice ta nt tc, .slice sa ns' sc]) PR) := Lib.hid (by
            rw [hPL, hPR]
            exact ⟨H1.out.2.1, (rPairQ.slice 2).mono hK2 H1.out.2.2.1, H1.out.2.2.2.mono hK2⟩)
          have H2 := Lib.hid (And.intro hrn2 (And.intro hrr2 hpr2))
          have hd : Sat w w14.drew (sep (isAM p1 (lkP L)) (sep (isAM p2 (lkP L)) (sep (kn K2) (sep (blk x1 (.cells #[.slice la nl lc, .slice ta nt tc, .slice sa ns' sc] 40 (0, 0))) (sep (blk x2 (.cells #[.slice la2 nl2 lc2, .slice ta2 nt2 tc2, .slice sa2 ns2 sc2] 40 (0, 0))) emp))))) := by
            have := h14.drew
            simpa only [sep_comm, sep_lcomm, sep_assoc] using this
          have HQ2 := Lib.hid (And.intro hx2 hw14)
          obtain ⟨wd, hwd⟩ : ∃ wd, wd = w14.drew := ⟨_, rfl⟩
          rw [← hwd] at hd
          have HRT := Lib.hid (aroot_spec HW.out p1 (lkP L) hd)
          have HWD := Lib.hid hwd
          have HPl := Lib.hid hPl
          clear HR2 h13 h14 hx2 hw14 hks2 hK2 hrn2 hrr2 hpr2 hPL hPR hPl H1 hd hwd
          obtain ⟨rt, hrt⟩ : ∃ z, z = rootN (lkP L) := ⟨_, rfl⟩
          obtain ⟨nk, hnk⟩ : ∃ z, z = nkeys (lkP L) := ⟨_, rfl⟩
          have HRN := Lib.hid (And.intro hrt hnk)
          rw [← hrt] at HRT
          clear hrt hnk
          go_upto_region 21 with (fail)
          rw [← HQ2.out.1, ← HQ2.out.2]
          refine wp_region_canon rfl (fun w' => w'.cell? ⟨x2, 0, none⟩ = some (.slice la2 nl2 lc2) ∧ w'.cell? ⟨x2, 1, none⟩ = some (.slice ta2 nt2 tc2) ∧ w'.cell? ⟨x2, 2, none⟩ = some (.slice sa2 ns2 sc2)) [(0, .p), (1, .p), (2, .p), (3, .p), (4, .p), (5, .p), (6, .p), (7, .p), (9, .p), (8, .e false), (10, .e false), (11, .p), (12, .p), (13, .p), (14, .p), (16, .p), (15, .e false), (17, .e false), (18, .p), (19, .p), (20, .p), (21, .p), (23, .p), (22, .e false), (24, .e false), (25, .e false), (26, .p), (27, .p), (28, .t), (30, .s), (29, .e true), (31, .e false), (32, .e false), (33, .p), (34, .p), (35, .e false), (36, .p), (37, .p)] (by kernel_rfl) ?_
          rw [← HWD.out]
          (repeat (first | (refine C_p (v := ?_) rfl rfl (fun w' => ?_) ?_; rotate_left; (go_simp; with_reducible rfl); simp only [Act.put, List.setIfInBounds_toArray, List.set_cons_zero, List.set_cons_succ]) | (refine C_s (v := ?_) rfl rfl hS0 (fun w' hS => ?_) ?_; rotate_left; ((try dsimp only at hS); go_simp; with_reducible rfl); simp only [Act.put, List.setIfInBounds_toArray, List.set_cons_zero, List.set_cons_succ]) | (refine C_t (v := ?_) rfl rfl ?_ ?_; rotate_left; (go_simp; with_reducible rfl); simp only [Act.put, List.setIfInBounds_toArray, List.set_cons_zero, List.set_cons_succ]) | (refine C_po rfl rfl ?_; simp only [Act.put, List.setIfInBounds_toArray, List.set_cons_zero, List.set_cons_succ]) | (refine C_so rfl rfl hS0 ?_; simp only [Act.put, List.setIfInBounds_toArray, List.set_cons_zero, List.set_cons_succ]) | (refine C_to rfl rfl ?_; simp only [Act.put, List.setIfInBounds_toArray, List.set_cons_zero, List.set_cons_succ])))
          (refine C_e rfl rfl (fun K hK => ?_); go_simp)
          refine HRT.out.mono ?_
          rintro e w15 ⟨rfl, h15⟩
          have hr2 := aroot_spec HW.out p2 (lkP L) h15.p1
          rw [← HRN.out.1] at hr2
          have HRT2 := Lib.hid hr2
          clear HRT h15 hr2
          (refine hK _ _ (fun h => by cases h) ?_; clear hK K; (try simp only [Act.put, List.setIfInBounds_toArray, List.set_cons_zero, List.set_cons_succ]))
          (repeat (first | (refine C_p (v := ?_) rfl rfl (fun w' => ?_) ?_; rotate_left; (go_simp; with_reducible rfl); simp only [Act.put, List.setIfInBounds_toArray, List.set_cons_zero, List.set_cons_succ]) | (refine C_s (v := ?_) rfl rfl hS0 (fun w' hS => ?_) ?_; rotate_left; ((try dsimp only at hS); go_simp; with_reducible rfl); simp only [Act.put, List.setIfInBounds_toArray, List.set_cons_zero, List.set_cons_succ]) | (refine C_t (v := ?_) rfl rfl ?_ ?_; rotate_left; (go_simp; with_reducible rfl); simp only [Act.put, List.setIfInBounds_toArray, List.set_cons_zero, List.set_cons_succ]) | (refine C_po rfl rfl ?_; simp only [Act.put, List.setIfInBounds_toArray, List.set_cons_zero, List.set_cons_succ]) | (refine C_so rfl rfl hS0 ?_; simp only [Act.put, List.setIfInBounds_toArray, List.set_cons_zero, List.set_cons_succ]) | (refine C_to rfl rfl ?_; simp only [Act.put, List.setIfInBounds_toArray, List.set_cons_zero, List.set_cons_succ])))
          (refine C_e rfl rfl (fun K hK => ?_); go_simp)
          refine HRT2.out.mono ?_
          rintro e w16 ⟨rfl, h16⟩
          have hl1 := alen_spec p1 (lkP L) h16.p1
          rw [← HRN.out.2] at hl1
          have HLE := Lib.hid hl1
          clear HRT2 h16 hl1
          (refine hK _ _ (fun h => by cases h) ?_; clear hK K; (try simp only [Act.put, List.setIfInBounds_toArray, List.set_cons_zero, List.set_cons_succ]))
          have grt : ((rt : Int) == (rt : Int)) = true := by simp
          have gnk : ((nk : Int) == (nk : Int)) = true := by simp
          (repeat (first | (refine C_p (v := ?_) rfl rfl (fun w' => ?_) ?_; rotate_left; (go_simp; with_reducible rfl); simp only [Act.put, List.setIfInBounds_toArray, List.set_cons_zero, List.set_cons_succ]) | (refine C_s (v := ?_) rfl rfl hS0 (fun w' hS => ?_) ?_; rotate_left; ((try dsimp only at hS); go_simp; with_reducible rfl); simp only [Act.put, List.setIfInBounds_toArray, List.set_cons_zero, List.set_cons_succ]) | (refine C_t (v := ?_) rfl rfl ?_ ?_; rotate_left; (go_simp; with_reducible rfl); simp only [Act.put, List.setIfInBounds_toArray, List.set_cons_zero, List.set_cons_succ]) | (refine C_po rfl rfl ?_; simp only [Act.put, List.setIfInBounds_toArray, List.set_cons_zero, List.set_cons_succ]) | (refine C_so rfl rfl hS0 ?_; simp only [Act.put, List.setIfInBounds_toArray, List.set_cons_zero, List.set_cons_succ]) | (refine C_to rfl rfl ?_; simp only [Act.put, List.setIfInBounds_toArray, List.set_cons_zero, List.set_cons_succ])))
          (refine C_e rfl rfl (fun K hK => ?_); go_simp)
          refine HLE.out.mono ?_
          rintro e w17 ⟨rfl, h17⟩
          have hl2 := alen_spec p2 (lkP L) h17.p1
          rw [← HRN.out.2] at hl2
          have HLE2 := Lib.hid hl2
          clear HLE h17 hl2
          (refine hK _ _ (fun h => by cases h) ?_; clear hK K; (try simp only [Act.put, List.setIfInBounds_toArray, List.set_cons_zero, List.set_cons_succ]))
          (repeat (first | (refine C_p (v := ?_) rfl rfl (fun w' => ?_) ?_; rotate_left; (go_simp; with_reducible rfl); simp only [Act.put, List.setIfInBounds_toArray, List.set_cons_zero, List.set_cons_succ]) | (refine C_s (v := ?_) rfl rfl hS0 (fun w' hS => ?_) ?_; rotate_left; ((try dsimp only at hS); go_simp; with_reducible rfl); simp only [Act.put, List.setIfInBounds_toArray, List.set_cons_zero, List.set_cons_succ]) | (refine C_t (v := ?_) rfl rfl ?_ ?_; rotate_left; (go_simp; with_reducible rfl); simp only [Act.put, List.setIfInBounds_toArray, List.set_cons_zero, List.set_cons_succ]) | (refine C_po rfl rfl ?_; simp only [Act.put, List.setIfInBounds_toArray, List.set_cons_zero, List.set_cons_succ]) | (refine C_so rfl rfl hS0 ?_; simp only [Act.put, List.setIfInBounds_toArray, List.set_cons_zero, List.set_cons_succ]) | (refine C_to rfl rfl ?_; simp only [Act.put, List.setIfInBounds_toArray, List.set_cons_zero, List.set_cons_succ])))
          (refine C_e rfl rfl (fun K hK => ?_); go_simp)
          refine HLE2.out.mono ?_
          rintro e w18 ⟨rfl, h18⟩
          have hp1 := plain_spec (.slice ra rn rc) PL (show Sat w w18 (sep (kn K2) (sep (isAM p1 (lkP L)) (sep (isAM p2 (lkP L)) (sep (blk x1 (.cells #[.slice la nl lc, .slice ta nt tc, .slice sa ns' sc] 40 (0, 0))) (sep (blk x2 (.cells #[.slice la2 nl2 lc2, .slice ta2 nt2 tc2, .slice sa2 ns2 sc2] 40 (0, 0))) emp))))) by simpa only [sep_comm, sep_lcomm, sep_assoc] using h18) H1'.out.2.1 HPl.out
          have HP1 := Lib.hid hp1
          clear HLE2 h18 hp1
          (refine hK _ _ (fun h => by cases h) ?_; clear hK K; (try simp only [Act.put, List.setIfInBounds_toArray, List.set_cons_zero, List.set_cons_succ]))
          (repeat (first | (refine C_p (v := ?_) rfl rfl (fun w' => ?_) ?_; rotate_left; (go_simp; with_reducible rfl); simp only [Act.put, List.setIfInBounds_toArray, List.set_cons_zero, List.set_cons_succ]) | (refine C_s (v := ?_) rfl rfl hS0 (fun w' hS => ?_) ?_; rotate_left; ((try dsimp only at hS); go_simp; with_reducible rfl); simp only [Act.put, List.setIfInBounds_toArray, List.set_cons_zero, List.set_cons_succ]) | (refine C_t (v := ?_) rfl rfl ?_ ?_; rotate_left; (go_simp; with_reducible rfl); simp only [Act.put, List.setIfInBounds_toArray, List.set_cons_zero, List.set_cons_succ]) | (refine C_po rfl rfl ?_; simp only [Act.put, List.setIfInBounds_toArray, List.set_cons_zero, List.set_cons_succ]) | (refine C_so rfl rfl hS0 ?_; simp only [Act.put, List.setIfInBounds_toArray, List.set_cons_zero, List.set_cons_succ]) | (refine C_to rfl rfl ?_; simp only [Act.put, List.setIfInBounds_toArray, List.set_cons_zero, List.set_cons_succ])))
          (refine C_e rfl rfl (fun K hK => ?_); go_simp)
          refine HP1.out.mono ?_
          rintro e w19 ⟨na, nc, K3, rfl, hK3, hq1, h19⟩
          have hp2 := plain_spec (.slice ra2 rn2 rc2) PL h19 ((rPairQ.slice 2).mono hK3 H2.out.2.1) HPl.out
          have HP2 := Lib.hid hp2
          have HN1 := Lib.hid (And.intro hK3 hq1)
          clear HP1 h19 hp2 hK3 hq1
          (refine hK _ _ (fun h => by cases h) ?_; clear hK K; (try simp only [Act.put, List.setIfInBounds_toArray, List.set_cons_zero, List.set_cons_succ]))
          (repeat (first | (refine C_p (v := ?_) rfl rfl (fun w' => ?_) ?_; rotate_left; (go_simp; with_reducible rfl); simp only [Act.put, List.setIfInBounds_toArray, List.set_cons_zero, List.set_cons_succ]) | (refine C_s (v := ?_) rfl rfl hS0 (fun w' hS => ?_) ?_; rotate_left; ((try dsimp only at hS); go_simp; with_reducible rfl); simp only [Act.put, List.setIfInBounds_toArray, List.set_cons_zero, List.set_cons_succ]) | (refine C_t (v := ?_) rfl rfl ?_ ?_; rotate_left; (go_simp; with_reducible rfl); simp only [Act.put, List.setIfInBounds_toArray, List.set_cons_zero, List.set_cons_succ]) | (refine C_po rfl rfl ?_; simp only [Act.put, List.setIfInBounds_toArray, List.set_cons_zero, List.set_cons_succ]) | (refine C_so rfl rfl hS0 ?_; simp only [Act.put, List.setIfInBounds_toArray, List.set_cons_zero, List.set_cons_succ]) | (refine C_to rfl rfl ?_; simp only [Act.put, List.setIfInBounds_toArray, List.set_cons_zero, List.set_cons_succ])))
          (refine C_e rfl rfl (fun K hK => ?_); go_simp)
          refine HP2.out.mono ?_
          rintro e w20 ⟨na2, nc2, K4, rfl, hK4, hq2, h20⟩
          have hsp := samePairs_spec _ _ PL PL h20 ((rPairQ.slice 2).mono hK4 HN1.out.2) hq2
          rw [decide_eq_true rfl] at hsp
          have HSP := Lib.hid hsp
          have HK4 := Lib.hid (Mem.le_trans HN1.out.1 hK4)
          clear HP2 h20 hsp hK4 hq2 HN1
          (refine hK _ _ (fun h => by cases h) ?_; clear hK K; (try simp only [Act.put, List.setIfInBounds_toArray, List.set_cons_zero, List.set_cons_succ]))
          (repeat (first | (refine C_p (v := ?_) rfl rfl (fun w' => ?_) ?_; rotate_left; (go_simp; with_reducible rfl); simp only [Act.put, List.setIfInBounds_toArray, List.set_cons_zero, List.set_cons_succ]) | (refine C_s (v := ?_) rfl rfl hS0 (fun w' hS => ?_) ?_; rotate_left; ((try dsimp only at hS); go_simp; with_reducible rfl); simp only [Act.put, List.setIfInBounds_toArray, List.set_cons_zero, List.set_cons_succ]) | (refine C_t (v := ?_) rfl rfl ?_ ?_; rotate_left; (go_simp; with_reducible rfl); simp only [Act.put, List.setIfInBounds_toArray, List.set_cons_zero, List.set_cons_succ]) | (refine C_po rfl rfl ?_; simp only [Act.put, List.setIfInBounds_toArray, List.set_cons_zero, List.set_cons_succ]) | (refine C_so rfl rfl hS0 ?_; simp only [Act.put, List.setIfInBounds_toArray, List.set_cons_zero, List.set_cons_succ]) | (refine C_to rfl rfl ?_; simp only [Act.put, List.setIfInBounds_toArray, List.set_cons_zero, List.set_cons_succ])))
          (refine C_e rfl rfl (fun K hK => ?_); go_simp)
          refine HSP.out.mono ?_
          rintro e w21 ⟨rfl, h21⟩
          have y0 : w21.cell? ⟨x1, 0, none⟩ = some (.slice la nl lc) := h21.p3.cell 0
          have y1 : w21.cell? ⟨x1, 1, none⟩ = some (.slice ta nt tc) := h21.p3.cell 1
          have y2 : w21.cell? ⟨x1, 2, none⟩ = some (.slice sa ns' sc) := h21.p3.cell 2
          have hS0 : w21.cell? ⟨x2, 0, none⟩ = some (.slice la2 nl2 lc2) ∧ w21.cell? ⟨x2, 1, none⟩ = some (.slice ta2 nt2 tc2) ∧ w21.cell? ⟨x2, 2, none⟩ = some (.slice sa2 ns2 sc2) := ⟨h21.p4.cell 0, h21.p4.cell 1, h21.p4.cell 2⟩
          have HB1 := Lib.hid (bare_spec la ta sa nl nt ns' lc tc sc h21)
          clear HSP h21
          (refine hK _ _ (fun h => by cases h) ?_; clear hK K; (try simp only [Act.put, List.setIfInBounds_toArray, List.set_cons_zero, List.set_cons_succ]))
          (repeat (first | (refine C_p (v := ?_) rfl rfl (fun w' => ?_) ?_; rotate_left; (go_simp; with_reducible rfl); simp only [Act.put, List.setIfInBounds_toArray, List.set_cons_zero, List.set_cons_succ]) | (refine C_s (v := ?_) rfl rfl hS0 (fun w' hS => ?_) ?_; rotate_left; ((try dsimp only at hS); go_simp; with_reducible rfl); simp only [Act.put, List.setIfInBounds_toArray, List.set_cons_zero, List.set_cons_succ]) | (refine C_t (v := ?_) rfl rfl ?_ ?_; rotate_left; (go_simp; with_reducible rfl); simp only [Act.put, List.setIfInBounds_toArray, List.set_cons_zero, List.set_cons_succ]) | (refine C_po rfl rfl ?_; simp only [Act.put, List.setIfInBounds_toArray, List.set_cons_zero, List.set_cons_succ]) | (refine C_so rfl rfl hS0 ?_; simp only [Act.put, List.setIfInBounds_toArray, List.set_cons_zero, List.set_cons_succ]) | (refine C_to rfl rfl ?_; simp only [Act.put, List.setIfInBounds_toArray, List.set_cons_zero, List.set_cons_succ])))
          (refine C_e rfl rfl (fun K hK => ?_); go_simp)
          refine HB1.out.mono ?_
          rintro e w22 ⟨rfl, h22⟩
          have hS1 : w22.cell? ⟨x2, 0, none⟩ = some (.slice la2 nl2 lc2) ∧ w22.cell? ⟨x2, 1, none⟩ = some (.slice ta2 nt2 tc2) ∧ w22.cell? ⟨x2, 2, none⟩ = some (.slice sa2 ns2 sc2) := ⟨h22.p4.cell 0, h22.p4.cell 1, h22.p4.cell 2⟩
          have HB2 := Lib.hid (bare_spec la2 ta2 sa2 nl2 nt2 ns2 lc2 tc2 sc2 h22)
          clear HB1 h22 y0 y1 y2 hS0
          (refine hK _ _ (fun _ => hS1) ?_; clear hK K; (try simp only [Act.put, List.setIfInBounds_toArray, List.set_cons_zero, List.set_cons_succ]))
          clear hS1
          (repeat (first | (refine C_p (v := ?_) rfl rfl (fun w' => ?_) ?_; rotate_left; (go_simp; with_reducible rfl); simp only [Act.put, List.setIfInBounds_toArray, List.set_cons_zero, List.set_cons_succ]) | (refine C_s (v := ?_) rfl rfl hS0 (fun w' hS => ?_) ?_; rotate_left; ((try dsimp only at hS); go_simp; with_reducible rfl); simp only [Act.put, List.setIfInBounds_toArray, List.set_cons_zero, List.set_cons_succ]) | (refine C_t (v := ?_) rfl rfl ?_ ?_; rotate_left; (go_simp; with_reducible rfl); simp only [Act.put, List.setIfInBounds_toArray, List.set_cons_zero, List.set_cons_succ]) | (refine C_po rfl rfl ?_; simp only [Act.put, List.setIfInBounds_toArray, List.set_cons_zero, List.set_cons_succ]) | (refine C_so rfl rfl hS0 ?_; simp only [Act.put, List.setIfInBounds_toArray, List.set_cons_zero, List.set_cons_succ]) | (refine C_to rfl rfl ?_; simp only [Act.put, List.setIfInBounds_toArray, List.set_cons_zero, List.set_cons_succ])))
          (refine C_e rfl rfl (fun K hK => ?_); go_simp)
          refine HB2.out.mono ?_
          rintro e w23 ⟨rfl, h23⟩
          have hsf := sameProof_spec _ _ PR PR h23 (H1'.out.2.2.mono HK4.out) (H2.out.2.2.mono HK4.out)
          rw [decide_eq_true rfl] at hsf
          have HSF := Lib.hid hsf
          clear HB2 h23 hsf
          (refine hK _ _ (fun h => by cases h) ?_; clear hK K; (try simp only [Act.put, List.setIfInBounds_toArray, List.set_cons_zero, List.set_cons_succ]))
          (repeat (first | (refine C_p (v := ?_) rfl rfl (fun w' => ?_) ?_; rotate_left; (go_simp; with_reducible rfl); simp only [Act.put, List.setIfInBounds_toArray, List.set_cons_zero, List.set_cons_succ]) | (refine C_s (v := ?_) rfl rfl hS0 (fun w' hS => ?_) ?_; rotate_left; ((try dsimp only at hS); go_simp; with_reducible rfl); simp only [Act.put, List.setIfInBounds_toArray, List.set_cons_zero, List.set_cons_succ]) | (refine C_t (v := ?_) rfl rfl ?_ ?_; rotate_left; (go_simp; with_reducible rfl); simp only [Act.put, List.setIfInBounds_toArray, List.set_cons_zero, List.set_cons_succ]) | (refine C_po rfl rfl ?_; simp only [Act.put, List.setIfInBounds_toArray, List.set_cons_zero, List.set_cons_succ]) | (refine C_so rfl rfl hS0 ?_; simp only [Act.put, List.setIfInBounds_toArray, List.set_cons_zero, List.set_cons_succ]) | (refine C_to rfl rfl ?_; simp only [Act.put, List.setIfInBounds_toArray, List.set_cons_zero, List.set_cons_succ])))
          (refine C_e rfl rfl (fun K hK => ?_); go_simp)
          refine HSF.out.mono ?_
          rintro e w24 ⟨rfl, h24⟩
          have HLV := Lib.hid (lives33_spec HW.out h24)
          clear HSF h24
          (refine hK _ _ (fun h => by cases h) ?_; clear hK K; (try simp only [Act.put, List.setIfInBounds_toArray, List.set_cons_zero, List.set_cons_succ]))
          (repeat (first | (refine C_p (v := ?_) rfl rfl (fun w' => ?_) ?_; rotate_left; (go_simp; with_reducible rfl); simp only [Act.put, List.setIfInBounds_toArray, List.set_cons_zero, List.set_cons_succ]) | (refine C_s (v := ?_) rfl rfl hS0 (fun w' hS => ?_) ?_; rotate_left; ((try dsimp only at hS); go_simp; with_reducible rfl); simp only [Act.put, List.setIfInBounds_toArray, List.set_cons_zero, List.set_cons_succ]) | (refine C_t (v := ?_) rfl rfl ?_ ?_; rotate_left; (go_simp; with_reducible rfl); simp only [Act.put, List.setIfInBounds_toArray, List.set_cons_zero, List.set_cons_succ]) | (refine C_po rfl rfl ?_; simp only [Act.put, List.setIfInBounds_toArray, List.set_cons_zero, List.set_cons_succ]) | (refine C_so rfl rfl hS0 ?_; simp only [Act.put, List.setIfInBounds_toArray, List.set_cons_zero, List.set_cons_succ]) | (refine C_to rfl rfl ?_; simp only [Act.put, List.setIfInBounds_toArray, List.set_cons_zero, List.set_cons_succ])))
          (refine C_e rfl rfl (fun K hK => ?_); go_simp)
          refine HLV.out.mono ?_
          rintro e w25 ⟨rfl, h25⟩
          have HZ := Lib.hid h25.below
          clear HLV h25
          (refine hK _ _ (fun h => by cases h) ?_; clear hK K; (try simp only [Act.put, List.setIfInBounds_toArray, List.set_cons_zero, List.set_cons_succ]))
          (repeat (first | (refine C_p (v := ?_) rfl rfl (fun w' => ?_) ?_; rotate_left; (go_simp; with_reducible rfl); simp only [Act.put, List.setIfInBounds_toArray, List.set_cons_zero, List.set_cons_succ]) | (refine C_s (v := ?_) rfl rfl hS0 (fun w' hS => ?_) ?_; rotate_left; ((try dsimp only at hS); go_simp; with_reducible rfl); simp only [Act.put, List.setIfInBounds_toArray, List.set_cons_zero, List.set_cons_succ]) | (refine C_t (v := ?_) rfl rfl ?_ ?_; rotate_left; (go_simp; with_reducible rfl); simp only [Act.put, List.setIfInBounds_toArray, List.set_cons_zero, List.set_cons_succ]) | (refine C_po rfl rfl ?_; simp only [Act.put, List.setIfInBounds_toArray, List.set_cons_zero, List.set_cons_succ]) | (refine C_so rfl rfl hS0 ?_; simp only [Act.put, List.setIfInBounds_toArray, List.set_cons_zero, List.set_cons_succ]) | (refine C_to rfl rfl ?_; simp only [Act.put, List.setIfInBounds_toArray, List.set_cons_zero, List.set_cons_succ])))
          refine C_nil ?_
          go_wp2_with fail
          go_ret
          exact ⟨rfl, HZ.out⟩
    · obtain ⟨i, rfl⟩ : ∃ i, j = i + 1 := ⟨j - 1, by omega⟩
      have eiv : ((i + 1 : Nat) : Int) - 1 = (i : Int) := by omega
      rw [eiv]
      have g1 : (0 : Int) ≤ (i : Int) := by omega
      have hiL : i < L.length := by rw [← HL.out.2.2.2.2.2]; omega
      obtain ⟨b, o, va, vc, rfl, hcx, hrx⟩ := pair_ext HL.out.2.2.2.1 i hiL
      obtain ⟨x, hx⟩ : ∃ z, z = L[i] := ⟨_, rfl⟩
      have hxk := HL.out.2.1 _ (List.getElem_mem hiL)
      rw [← hx] at hcx hrx hxk
      have hstep : ovr (L.drop i) (lkP E) = fset (fset (ovr (L.drop (i + 1)) (lkP E)) x.1 (some otherL)) x.1 (some x.2) := by
        rw [fset_fset, List.drop_eq_getElem_cons hiL, ← hx, ovr_cons]
      obtain ⟨k, hk⟩ : ∃ z, z = x.1 := ⟨_, rfl⟩
      obtain ⟨vl, hvl⟩ : ∃ z, z = x.2.length := ⟨_, rfl⟩
      rw [← hk] at hcx hxk hstep
      rw [← hvl] at hcx hrx hxk
      have hJ1J : Mem.le J1 J := Mem.le_trans HJ2.out HJ.out
      have hcA : ∀ w', Ext J w' → w'.cell? ⟨q1, 0, none⟩ = some (.slice (some ⟨b, o, none⟩) nL pc) ∧ w'.cell? ⟨b, o + i * 2, none⟩ = some (.int .i64 k) ∧ w'.cell? ⟨b, o + i * 2 + 1, none⟩ = some (.slice va vl vc) := fun w' he =>
        have he1 : Ext J1 w' := fun b' o' h' => he b' o' (hJ1J b' o' h')
        ⟨HL.out.2.2.2.2.1 w' he1, (hcx w' he1).1, (hcx w' he1).2⟩
      have hsk : Sat w wr.drew (sep (kn J) (sep (isAM p2 (ovr (L.drop (i + 1)) (lkP E))) (sep (isAM p1 (lkP L)) emp))) := by
        have := hS.drew
        simpa only [sep_comm, sep_lcomm, sep_assoc] using this
      have hS0 : wr.drew.cell? ⟨q1, 0, none⟩ = some (.slice (some ⟨b, o, none⟩) nL pc) ∧ wr.drew.cell? ⟨b, o + i * 2, none⟩ = some (.int .i64 k) := by
        have := hcA wr.drew hsk.ext
        exact ⟨this.1, this.2.1⟩
      obtain ⟨J5, hJ5, hro, hs2⟩ := (show Sat w (wr.drew.alloc (.cells (otherL.map bv).toArray 5 (5, 6))) (sep (rBytes.is [.slice (some ⟨wr.drew.heap.size, 0, none⟩) otherL.length otherL.length] otherL) (sep (kn J) (sep (isAM p2 (ovr (L.drop (i + 1)) (lkP E))) (sep (isAM p1 (lkP L)) emp)))) from hsk.bytes_of_alloc otherL 5 (5, 6) (by decide)).learn
      obtain ⟨g, hg⟩ : ∃ g, g = wr.drew.heap.size := ⟨_, rfl⟩
      have hA1 := aset_ok HW.out p2 _ k (.slice (some ⟨g, 0, none⟩) 5 5) otherL (show Sat w (wr.drew.alloc (.cells (otherL.map bv).toArray 5 (5, 6))) (sep (isAM p2 (ovr (L.drop (i + 1)) (lkP E))) (sep (kn J5) (sep (isAM p1 (lkP L)) emp))) by simpa only [sep_comm, sep_lcomm, sep_assoc] using hs2) (by rw [hg]; exact hro) hxk.1 (by decide)
      have hA2 := fun w' (h : Sat w w' (sep (isAM p2 (fset (ovr (L.drop (i + 1)) (lkP E)) k (some otherL))) (sep (kn J5) (sep (isAM p1 (lkP L)) emp)))) =>
        aset_ok HW.out p2 _ k (.slice va vl vc) x.2 h (rBytes.mono (Mem.le_trans hJ1J hJ5) hrx) hxk.1 (by rw [← hvl]; have := hxk.2; omega)
      rw [← hstep] at hA2
      have HC := Lib.hid (fun w' (he : Ext J5 w') => hcA w' (fun b' o' h' => he b' o' (hJ5 b' o' h')))
      have HA1 := Lib.hid hA1
      have HA2 := Lib.hid hA2
      have HJ5 := Lib.hid (Mem.le_trans HJ.out hJ5)
      have hil : i < nL := by omega
      clear hiL hcx hrx hx hxk hstep hk hvl hJ1J hro hA1 hA2 hS eiv hj hj0
      obtain ⟨w9, hw9⟩ : ∃ w9, w9 = (wr.alloc (.cells #[.int .u8 111, .int .u8 116, .int .u8 104, .int .u8 101, .int .u8 114] 5)).drew := ⟨_, rfl⟩
      obtain ⟨w10, hw10⟩ : ∃ w10, w10 = wr.drew.alloc (.cells (otherL.map bv).toArray 5 (5, 6)) := ⟨_, rfl⟩
      have kc2 : (convert 32 32 (.slice (some ⟨g, 0, none⟩) 5 5)).run Tryd.prog w9 = .ok (.slice (some ⟨g, 0, none⟩) 5 5) w10 := by
        rw [hg, hw9, hw10]
        exact kc wr.drew #[.int .u8 111, .int .u8 116, .int .u8 104, .int .u8 101, .int .u8 114] 5 5
      have HS9 : Hid (w9.cell? ⟨q1, 0, none⟩ = some (.slice (some ⟨b, o, none⟩) nL pc) ∧ w9.cell? ⟨b, o + i * 2, none⟩ = some (.int .i64 k)) := Lib.hid (by
        have h9 := hsk.alloc0 (.cells #[.int .u8 111, .int .u8 116, .int .u8 104, .int .u8 101, .int .u8 114] 5)
        have := hcA w9 (by rw [hw9]; exact (show Sat w (wr.drew.alloc (.cells #[.int .u8 111, .int .u8 116, .int .u8 104, .int .u8 101, .int .u8 114] 5)) (sep (kn J) _) from h9).ext)
        exact ⟨this.1, this.2.1⟩)
      have HS10 : Hid (w10.cell? ⟨q1, 0, none⟩ = some (.slice (some ⟨b, o, none⟩) nL pc) ∧ w10.cell? ⟨b, o + i * 2, none⟩ = some (.int .i64 k)) := Lib.hid (by
        have := HC.out w10 (by rw [hw10]; exact hs2.ext)
        exact ⟨this.1, this.2.1⟩)
      rw [← hw10] at HA1
      have HGW := Lib.hid (And.intro (show wr.heap.size = g from hg.symm) hw9)
      have KC := Lib.hid kc2
      clear hsk hcA hs2 hJ5 hg hw9 hw10 kc2
      go_wp2_with fail
      refine wp_region_canon rfl (fun w' => w'.cell? ⟨q1, 0, none⟩ = some (.slice (some ⟨b, o, none⟩) nL pc) ∧ w'.cell? ⟨b, o + i * 2, none⟩ = some (.int .i64 k)) [(0, .p), (1, .p), (2, .p), (3, .p), (4, .s), (5, .p), (6, .p), (7, .p), (8, .s), (9, .e true), (10, .e true), (11, .e false), (12, .p), (13, .p), (14, .p), (15, .p), (16, .p), (17, .p), (18, .t), (19, .p), (20, .p), (21, .p), (22, .t), (23, .p), (24, .p), (25, .p), (26, .t), (27, .p), (28, .p), (29, .p), (30, .t), (31, .e false), (32, .p), (33, .p)] (by kernel_rfl) ?_
      (repeat (first | (refine C_p (v := ?_) rfl rfl (fun w' => ?_) ?_; rotate_left; (go_simp; with_reducible rfl); simp only [Act.put, List.setIfInBounds_toArray, List.set_cons_zero, List.set_cons_succ]) | (refine C_s (v := ?_) rfl rfl hS0 (fun w' hS => ?_) ?_; rotate_left; ((try dsimp only at hS); go_simp; with_reducible rfl); simp only [Act.put, List.setIfInBounds_toArray, List.set_cons_zero, List.set_cons_succ]) | (refine C_t (v := ?_) rfl rfl ?_ ?_; rotate_left; (go_simp; with_reducible rfl); simp only [Act.put, List.setIfInBounds_toArray, List.set_cons_zero, List.set_cons_succ]) | (refine C_po rfl rfl ?_; simp only [Act.put, List.setIfInBounds_toArray, List.set_cons_zero, List.set_cons_succ]) | (refine C_so rfl rfl hS0 ?_; simp only [Act.put, List.setIfInBounds_toArray, List.set_cons_zero, List.set_cons_succ]) | (refine C_to rfl rfl ?_; simp only [Act.put, List.setIfInBounds_toArray, List.set_cons_zero, List.set_cons_succ])))
      (refine C_e rfl rfl (fun K hK => ?_); go_simp)
      rw [HGW.out.1, ← HGW.out.2]
      clear hS0
      have hS0 := HS9.out
      have kc2 := KC.out
      (refine hK _ _ (fun _ => HS9.out) ?_; clear hK K; (try simp only [Act.put, List.setIfInBounds_toArray, List.set_cons_zero, List.set_cons_succ]))
      (repeat (first | (refine C_p (v := ?_) rfl rfl (fun w' => ?_) ?_; rotate_left; (go_simp; with_reducible rfl); simp only [Act.put, List.setIfInBounds_toArray, List.set_cons_zero, List.set_cons_succ]) | (refine C_s (v := ?_) rfl rfl hS0 (fun w' hS => ?_) ?_; rotate_left; ((try dsimp only at hS); go_simp; with_reducible rfl); simp only [Act.put, List.setIfInBounds_toArray, List.set_cons_zero, List.set_cons_succ]) | (refine C_t (v := ?_) rfl rfl ?_ ?_; rotate_left; (go_simp; with_reducible rfl); simp only [Act.put, List.setIfInBounds_toArray, List.set_cons_zero, List.set_cons_succ]) | (refine C_po rfl rfl ?_; simp only [Act.put, List.setIfInBounds_toArray, List.set_cons_zero, List.set_cons_succ]) | (refine C_so rfl rfl hS0 ?_; simp only [Act.put, List.setIfInBounds_toArray, List.set_cons_zero, List.set_cons_succ]) | (refine C_to rfl rfl ?_; simp only [Act.put, List.setIfInBounds_toArray, List.set_cons_zero, List.set_cons_succ])))
      (refine C_e rfl rfl (fun K hK => ?_); go_simp)
      clear kc2 hS0
      (refine hK _ _ (fun _ => HS10.out) ?_; clear hK K; (try simp only [Act.put, List.setIfInBounds_toArray, List.set_cons_zero, List.set_cons_succ]))
      (repeat (first | (refine C_p (v := ?_) rfl rfl (fun w' => ?_) ?_; rotate_left; (go_simp; with_reducible rfl); simp only [Act.put, List.setIfInBounds_toArray, List.set_cons_zero, List.set_cons_succ]) | (refine C_s (v := ?_) rfl rfl hS0 (fun w' hS => ?_) ?_; rotate_left; ((try dsimp only at hS); go_simp; with_reducible rfl); simp only [Act.put, List.setIfInBounds_toArray, List.set_cons_zero, List.set_cons_succ]) | (refine C_t (v := ?_) rfl rfl ?_ ?_; rotate_left; (go_simp; with_reducible rfl); simp only [Act.put, List.setIfInBounds_toArray, List.set_cons_zero, List.set_cons_succ]) | (refine C_po rfl rfl ?_; simp only [Act.put, List.setIfInBounds_toArray, List.set_cons_zero, List.set_cons_succ]) | (refine C_so rfl rfl hS0 ?_; simp only [Act.put, List.setIfInBounds_toArray, List.set_cons_zero, List.set_cons_succ]) | (refine C_to rfl rfl ?_; simp only [Act.put, List.setIfInBounds_toArray, List.set_cons_zero, List.set_cons_succ])))
      (refine C_e rfl rfl (fun K hK => ?_); go_simp)
      refine HA1.out.mono ?_
      rintro e w11 ⟨rfl, h11⟩
      obtain ⟨f0, f1, f2⟩ := HC.out w11 h11.p1.ext
      have HB := Lib.hid (HA2.out w11 h11)
      clear HA1 HA2 h11 HS10 HS9 KC HGW
      (refine hK _ _ (fun h => by cases h) ?_; clear hK K; (try simp only [Act.put, List.setIfInBounds_toArray, List.set_cons_zero, List.set_cons_succ]))
      (repeat (first | (refine C_p (v := ?_) rfl rfl (fun w' => ?_) ?_; rotate_left; (go_simp; with_reducible rfl); simp only [Act.put, List.setIfInBounds_toArray, List.set_cons_zero, List.set_cons_succ]) | (refine C_s (v := ?_) rfl rfl hS0 (fun w' hS => ?_) ?_; rotate_left; ((try dsimp only at hS); go_simp; with_reducible rfl); simp only [Act.put, List.setIfInBounds_toArray, List.set_cons_zero, List.set_cons_succ]) | (refine C_t (v := ?_) rfl rfl ?_ ?_; rotate_left; (go_simp; with_reducible rfl); simp only [Act.put, List.setIfInBounds_toArray, List.set_cons_zero, List.set_cons_succ]) | (refine C_po rfl rfl ?_; simp only [Act.put, List.setIfInBounds_toArray, List.set_cons_zero, List.set_cons_succ]) | (refine C_so rfl rfl hS0 ?_; simp only [Act.put, List.setIfInBounds_toArray, List.set_cons_zero, List.set_cons_succ]) | (refine C_to rfl rfl ?_; simp only [Act.put, List.setIfInBounds_toArray, List.set_cons_zero, List.set_cons_succ])))
      (refine C_e rfl rfl (fun K hK => ?_); go_simp)
      refine HB.out.mono ?_
      rintro e w12 ⟨rfl, h12⟩
      have H12 := Lib.hid h12
      clear HB h12 f0 f1 f2
      (refine hK _ _ (fun h => by cases h) ?_; clear hK K; (try simp only [Act.put, List.setIfInBounds_toArray, List.set_cons_zero, List.set_cons_succ]))
      (repeat (first | (refine C_p (v := ?_) rfl rfl (fun w' => ?_) ?_; rotate_left; (go_simp; with_reducible rfl); simp only [Act.put, List.setIfInBounds_toArray, List.set_cons_zero, List.set_cons_succ]) | (refine C_s (v := ?_) rfl rfl hS0 (fun w' hS => ?_) ?_; rotate_left; ((try dsimp only at hS); go_simp; with_reducible rfl); simp only [Act.put, List.setIfInBounds_toArray, List.set_cons_zero, List.set_cons_succ]) | (refine C_t (v := ?_) rfl rfl ?_ ?_; rotate_left; (go_simp; with_reducible rfl); simp only [Act.put, List.setIfInBounds_toArray, List.set_cons_zero, List.set_cons_succ]) | (refine C_po rfl rfl ?_; simp only [Act.put, List.setIfInBounds_toArray, List.set_cons_zero, List.set_cons_succ]) | (refine C_so rfl rfl hS0 ?_; simp only [Act.put, List.setIfInBounds_toArray, List.set_cons_zero, List.set_cons_succ]) | (refine C_to rfl rfl ?_; simp only [Act.put, List.setIfInBounds_toArray, List.set_cons_zero, List.set_cons_succ])))
      refine C_nil ?_
      go_wp2_with fail
      go_roundw
      case rel => exact ⟨i, J5, by omega, rfl, HJ5, H12.out⟩
      case measure => simp only [intOf]; omega
  end Go.Proofs.YtcmjbjlliehdiaaDoor
