/- DiskPlan, the walk. -/
import Derived.Test.YtbniekblkbdidaaD9
import Derived.Test.YtbniekblkbdidaaD11
namespace Go.Proofs.Ytbniekblkbdidaa
open Go.RowKit PA
set_option maxRecDepth 100000 in
set_option maxHeartbeats 8000000 in
theorem diskPlan_walk (a0 : Int) (a1 : Option Addr) (len1 cap1 : Nat) (z1 : List Int) (w : World)
    (w0 : (Lit.int .i64 a0).wf = true) (w1 : IsArg w a1 len1 cap1 z1) :
    Calls Try.prog 7 #[.int .i64 a0, .slice a1 len1 cap1] w fun e w' => e = .returned (.bool true) ∧ Below w.heap.size w w' := by
  obtain ⟨ns, hns, hr1, h64⟩ := argI w1
  obtain ⟨a', c', e, -, hr1⟩ := ints_rel.1 hr1
  simp only [Value.slice.injEq] at e
  obtain ⟨rfl, -, rfl⟩ := e
  have h0 := Sat.startKn w
  have hn64 := i64_of_wf w0
  have hnew := dnew_ok 1000 h0 (by omega)
  have HN := Lib.hid hnew
  have HA0 := Lib.hid hn64
  have HR1 := Lib.hid (And.intro hns (And.intro hr1 h64))
  clear hnew h0 w0 w1 hns hr1 h64 hn64
  go_enter Try.func7, Try.ntmps7
  go_wp2_with fail
  refine HN.out.mono ?_
  rintro e w1 ⟨p, rfl, h1⟩
  clear HN
  go_wp2_with fail
  refine (around_spec a0 8 w1 HA0.out.1 HA0.out.2 (by omega) (by omega)).mono ?_
  rintro e w' ⟨rfl, rfl⟩
  have hq := aroundI_lt a0 8 (by omega)
  obtain ⟨M, hM⟩ : ∃ M : Nat, aroundI a0 8 = (M : Int) := ⟨(aroundI a0 8).toNat, by omega⟩
  rw [hM] at hq ⊢
  have hM8 : M < 8 := by omega
  clear hq hM
  have har := darm_spec p (newD 1000) (M : Int) h1 ⟨by omega, by omega⟩
  rw [newD_plan] at har
  have HAR := Lib.hid har
  clear har h1
  go_wp2_with fail
  refine HAR.out.mono ?_
  rintro e w2 ⟨rfl, h2⟩
  clear HAR
  go_wp2_with fail
  go_loopw [8, 9] (fun zv iv' wr => ∃ (i z d : Nat) (bs : List UInt8), i ≤ 12 ∧ zv = .int .i64 (z : Nat) ∧ iv' = .int .i64 (i : Nat) ∧ Hid (z = bs.length ∧ d ≤ z) ∧ z ≤ i ∧ Sat w wr (sep (isDisk p (planS M i bs d)) (sep (kn (wm w)) emp))) (fun _ iv' _ => 12 - (intOf iv').toNat)
  case atStart => exact ⟨0, 0, 0, [], by omega, rfl, rfl, Lib.hid ⟨rfl, Nat.le_refl _⟩, by omega, h2⟩
  case round =>
    clear h2
    obtain ⟨i, z, d, bs, hi, rfl, rfl, HZ, hzi, hS⟩ := hrel
    by_cases hil : i < len1 ∧ i < 12
    · obtain ⟨hi1, hi2⟩ := hil
      have hil : i < ns.length := by rw [← HR1.out.1]; exact hi1
      obtain ⟨ga, go, rfl, hcell⟩ := cells_ext HR1.out.2.1 (fun e => by simp at e; rw [e] at hil; simp at hil)
      have hSx := hS
      have HS := Lib.hid hS
      obtain ⟨x, hx⟩ : ∃ x, x = ns[i] := ⟨_, rfl⟩
      have hc1 : wr.cell? ⟨ga, go + i, none⟩ = some (.int .i64 x) := hcell wr hS.p1.ext i _ (by rw [List.getElem?_map, List.getElem?_eq_getElem hil, hx]; rfl)
      have hx64 : I64' x := by rw [hx]; exact HR1.out.2.2 _ (List.getElem_mem hil)
      have HX := Lib.hid hx64
      have hi1I : (i : Int) < (len1 : Int) := by omega
      have hi2I : (i : Int) < 12 := by omega
      clear hS hSx hcell hx hx64 hil hi1
      go_upto_if 41 with (fail)
      go_cut [10] (fun wv wx => wv = .int .i64 (wantP M i) ∧ wx = wr)
      case first =>
        by_cases hM : M ≤ i
        · have g1 : decide ((i : Int) ≥ (M : Int)) = true := by simp; omega
          go_wp2_with fail
          go_meet
          exact ⟨by rw [wantP, if_pos hM], rfl⟩
        · have g1 : decide ((i : Int) ≥ (M : Int)) = false := by simp; omega
          go_wp2_with fail
          go_meet
          exact ⟨by rw [wantP, if_neg hM], rfl⟩
      case rest =>
        obtain ⟨rfl, rfl⟩ := hcut
        go_wp2_with fail
        refine (around_spec x 3 wc HX.out.1 HX.out.2 (by omega) (by omega)).mono ?_
        rintro e w' ⟨rfl, rfl⟩
        have hq := aroundI_lt x 3 (by omega)
        obtain ⟨k, hk⟩ : ∃ k : Nat, aroundI x 3 = (k : Int) := ⟨(aroundI x 3).toNat, by omega⟩
        rw [hk] at hq ⊢
        have hk3 : k < 3 := by omega
        clear hq hk hc1
        go_upto_block 2 with (fail)
        go_cut [8, 11] (fun zv gv wx => ∃ (z' d' : Nat) (bs' : List UInt8), zv = .int .i64 (z' : Nat) ∧ gv = .int .i64 (wantP M i) ∧ Hid (z' = bs'.length ∧ d' ≤ z') ∧ z' ≤ i + 1 ∧ Sat w wx (sep (isDisk p (planS M (i + 1) bs' d')) (sep (kn (wm w)) emp)))
        case first =>
          have hzs : bs.length ≤ 900 := by have := HZ.out.1; omega
          have HZS := Lib.hid hzs
          clear hzs
          obtain rfl | rfl | rfl : k = 0 ∨ k = 1 ∨ k = 2 := by omega
          · obtain ⟨J, hJ, hb5, h3⟩ := litB HS.out.p1 [5] 5 (by decide)
            have ha := dappend_spec p (planS M i bs d) 1 _ [5] h3.p1 hb5 (by simp)
            rw [planS_append HZS.out] at ha
            have HAP := Lib.hid ha
            have HJ := Lib.hid hJ
            clear ha hb5 h3 hJ
            go_wp2_with fail
            refine HAP.out.mono ?_
            rintro e w3 ⟨rfl, h4⟩
            have h5 := (h4.p1.kn_mono HJ.out).p1
            have H5 := Lib.hid h5
            clear HAP h4 h5
            by_cases hiM : i ≤ M
            · have g1 : decide ((i : Int) ≤ (M : Int)) = true := by simp; omega
              go_wp2_with fail
              go_meet
              exact ⟨z + 1, d, bs ++ [5], rfl, rfl, Lib.hid ⟨by rw [List.length_append, HZ.out.1]; rfl, by have := HZ.out.2; omega⟩, by omega, by have := H5.out; rwa [if_pos hiM] at this⟩
            · have g1 : decide ((i : Int) ≤ (M : Int)) = false := by simp; omega
              go_wp2_with fail
              go_meet
              exact ⟨z, d, bs, rfl, rfl, HZ, by omega, by have := H5.out; rwa [if_neg hiM] at this⟩
          ·
            have hs := dsync_spec p (planS M i bs d) HS.out
            rw [planS_sync] at hs
            have HSY := Lib.hid hs
            clear hs
            go_wp2_with fail
            refine HSY.out.mono ?_
            rintro e w3 ⟨rfl, h3⟩
            have H3 := Lib.hid h3
            clear HSY h3
            go_wp2_with fail
            go_meet
            exact ⟨z, _, bs, rfl, rfl, Lib.hid ⟨HZ.out.1, by have := HZ.out; split <;> omega⟩, by omega, H3.out⟩
          · by_cases hz0 : z = 0
            · subst hz0
              have g1 : ¬ ((0 : Nat) : Int) > 0 := by omega
              have hs := dsync_spec p (planS M i bs d) HS.out
              rw [planS_sync] at hs
              have HSY := Lib.hid hs
              clear hs
              go_wp2_with fail
              refine HSY.out.mono ?_
              rintro e w3 ⟨rfl, h3⟩
              have H3 := Lib.hid h3
              clear HSY h3
              go_wp2_with fail
              go_meet
              exact ⟨0, _, bs, rfl, rfl, Lib.hid ⟨HZ.out.1, by have := HZ.out; split <;> omega⟩, by omega, H3.out⟩
            · obtain ⟨y, hy⟩ : ∃ y : Nat, (z : Int) - 1 = (y : Int) := ⟨z - 1, by omega⟩
              have g1 : (z : Int) > 0 := by omega
              have ht := dtrunc_spec p (planS M i bs d) 1 (y : Int) HS.out
              rw [planS_trunc (by have := HZ.out.1; omega)] at ht
              have HT := Lib.hid ht
              clear ht
              go_wp2_with fail
              refine HT.out.mono ?_
              rintro e w3 ⟨rfl, h3⟩
              have H3 := Lib.hid h3
              clear HT h3
              have HY := Lib.hid hy
              by_cases hiM : i < M
              · have g3 : decide ((i : Int) < (M : Int)) = true := by simp; omega
                go_wp2_with fail
                go_meet
                exact ⟨y, min d y, bs.take y, rfl, rfl, Lib.hid ⟨by rw [List.length_take]; have := HZ.out.1; have := HY.out; omega, by omega⟩, by have := HY.out; omega, by have := H3.out; rwa [if_pos hiM, if_pos hiM] at this⟩
              · have g3 : decide ((i : Int) < (M : Int)) = false := by simp; omega
                go_wp2_with fail
                go_meet
                exact ⟨z, d, bs, rfl, rfl, HZ, by omega, by have := H3.out; rwa [if_neg hiM, if_neg hiM] at this⟩
        case rest =>
          obtain ⟨z', d', bs', rfl, rfl, HZ', hzi', h3⟩ := hcut
          clear HS HZ
          have hon := don_spec p _ h3
          have HON := Lib.hid hon
          have HUS := Lib.hid (dused_spec p _ h3)
          have hoff : (planS M (i + 1) bs' d').off = decide (M ≤ i) := by simp [planS]; omega
          rw [hoff] at HON
          rw [planS_used, ← HZ'.out.1] at HUS
          obtain ⟨wt, hwt⟩ : ∃ wt, wt = wantP M i := ⟨_, rfl⟩
          rw [← hwt]
          clear h3 hon hoff hwt
          by_cases hiM : i < M
          · have g3 : decide ((i : Int) < (M : Int)) = true := by simp; omega
            have g4 : decide (M ≤ i) = false := by simp; omega
            rw [g4] at HON
            go_wp2_with fail
            refine HON.out.mono ?_
            rintro e w4 ⟨rfl, rfl⟩
            clear HON
            go_wp2_with fail
            refine HUS.out.mono ?_
            rintro e w5 ⟨rfl, h6⟩
            have H6 := Lib.hid h6
            clear HUS h6
            go_wp2_with fail
            go_roundw
            case rel => exact ⟨i + 1, z', d', bs', by omega, rfl, rfl, HZ', hzi', H6.out⟩
            case measure => simp only [intOf]; omega
          · have g3 : decide ((i : Int) < (M : Int)) = false := by simp; omega
            have g4 : decide (M ≤ i) = true := by simp; omega
            rw [g4] at HON
            go_wp2_with fail
            refine HON.out.mono ?_
            rintro e w4 ⟨rfl, rfl⟩
            clear HON
            go_wp2_with fail
            refine HUS.out.mono ?_
            rintro e w5 ⟨rfl, h6⟩
            have H6 := Lib.hid h6
            clear HUS h6
            go_wp2_with fail
            go_roundw
            case rel => exact ⟨i + 1, z', d', bs', by omega, rfl, rfl, HZ', hzi', H6.out⟩
            case measure => simp only [intOf]; omega
    · have g0 : (decide ((i : Int) < (len1 : Int)) && decide ((i : Int) < 12)) = false := by simp; omega
      obtain ⟨J, hJ, hri, h3⟩ := litI hS.p1 [1000] 3 (by decide)
      have hcr := dcrash_spec p (planS M i bs d) _ _ _ [1000] (-1) h3.p1 hri (by intro x hx; simp at hx; subst hx; exact ⟨by omega, by omega⟩) ⟨by omega, by omega⟩
      rw [planS_crash (by have := HZ.out; omega) (by have := HZ.out; omega)] at hcr
      have HCR := Lib.hid hcr
      have HNI := Lib.hid hil
      clear hS hri h3 hcr hil
      rcases Nat.lt_or_ge i len1 with g1 | g1
      · have g2 : ¬ (i : Int) < 12 := by have := HNI.out; omega
        have g3 : (i : Int) < (len1 : Int) := by omega
        go_wp2_with fail
        refine HCR.out.mono ?_
        rintro e w3 ⟨rfl, h4⟩
        obtain ⟨fin, hfin⟩ : ∃ fin : DSt, fin = ⟨1000, dset noFiles 1 (bs, bs.length), false, none⟩ := ⟨_, rfl⟩
        rw [← hfin] at h4
        have hrd := dread_spec p fin 1 h4
        have hrr : readD fin 1 = (bs, 0) := by rw [hfin, readD, if_neg (by omega)]; simp [dset]
        have hsy : (syncD fin).1 = 0 := by rw [hfin]; rfl
        have hon : fin.off = false := by rw [hfin]
        rw [hrr] at hrd
        dsimp only at hrd
        rw [← HZ.out.1] at hrd
        have HRD := Lib.hid hrd
        have HSY := Lib.hid hsy
        have HON := Lib.hid hon
        clear HCR h4 hfin hrd hrr hsy hon g0
        go_wp2_with fail
        refine HRD.out.mono ?_
        rintro e w4 ⟨a4, c4, rfl, h5⟩
        have hdn := don_spec p fin h5.p1
        rw [HON.out] at hdn
        have hds := dsync_spec p fin h5.p1
        rw [HSY.out] at hds
        have HDN := Lib.hid hdn
        have HDS := Lib.hid hds
        clear HRD h5 hdn hds
        go_wp2_with fail
        refine HDN.out.mono ?_
        rintro e w5 ⟨rfl, rfl⟩
        go_wp2_with fail
        refine HDS.out.mono ?_
        rintro e w6 ⟨rfl, h6⟩
        go_wp2_with fail
        refine (lives29_spec h6).mono ?_
        rintro e w7 ⟨rfl, h7⟩
        go_wp2_with fail
        go_ret
        exact ⟨rfl, h7.below⟩
      · have g3 : ¬ (i : Int) < (len1 : Int) := by omega
        go_wp2_with fail
        refine HCR.out.mono ?_
        rintro e w3 ⟨rfl, h4⟩
        obtain ⟨fin, hfin⟩ : ∃ fin : DSt, fin = ⟨1000, dset noFiles 1 (bs, bs.length), false, none⟩ := ⟨_, rfl⟩
        rw [← hfin] at h4
        have hrd := dread_spec p fin 1 h4
        have hrr : readD fin 1 = (bs, 0) := by rw [hfin, readD, if_neg (by omega)]; simp [dset]
        have hsy : (syncD fin).1 = 0 := by rw [hfin]; rfl
        have hon : fin.off = false := by rw [hfin]
        rw [hrr] at hrd
        dsimp only at hrd
        rw [← HZ.out.1] at hrd
        have HRD := Lib.hid hrd
        have HSY := Lib.hid hsy
        have HON := Lib.hid hon
        clear HCR h4 hfin hrd hrr hsy hon g0
        go_wp2_with fail
        refine HRD.out.mono ?_
        rintro e w4 ⟨a4, c4, rfl, h5⟩
        have hdn := don_spec p fin h5.p1
        rw [HON.out] at hdn
        have hds := dsync_spec p fin h5.p1
        rw [HSY.out] at hds
        have HDN := Lib.hid hdn
        have HDS := Lib.hid hds
        clear HRD h5 hdn hds
        go_wp2_with fail
        refine HDN.out.mono ?_
        rintro e w5 ⟨rfl, rfl⟩
        go_wp2_with fail
        refine HDS.out.mono ?_
        rintro e w6 ⟨rfl, h6⟩
        go_wp2_with fail
        refine (lives29_spec h6).mono ?_
        rintro e w7 ⟨rfl, h7⟩
        go_wp2_with fail
        go_ret
        exact ⟨rfl, h7.below⟩
end Go.Proofs.Ytbniekblkbdidaa
