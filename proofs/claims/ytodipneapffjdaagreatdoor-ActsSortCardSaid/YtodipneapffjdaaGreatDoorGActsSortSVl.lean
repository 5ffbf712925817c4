/- The reference's alts of claims. -/
import Derived.Test.YtodipneapffjdaaGreatDoorGActsSort20
namespace Go.Proofs.YtodipneapffjdaaGreatDoor
open Go.RowKit PA
attribute [local go_sem ↓] buildSlice_fm
theorem bsFm0 (w : World) : (bsFm 0 #[]).run Tryz.prog w = .ok (.slice (some ⟨w.heap.size, 0, none⟩) 0 0) (w.alloc (.cells #[] 35)) := by
  obtain ⟨i, h1, h2, h3, h4⟩ := info_parts infoFm
  show (Instr.buildSlice 28 0 #[]).run Tryz.prog w = _
  simp [Instr.buildSlice, run_underlying Tryz.underlying28, sizeOf, typeInfo, h1, newRow, Instr.fill]
  have e : ∀ g : Nat → Value, (Array.range 0).map g = #[] := fun g => Array.eq_empty_of_size_eq_zero (by simp)
  rw [e]
attribute [local go_sem] bsFm0 bsFm1
def pairD : Nat → List Nat := fun x => if x = 6 then [0, 5] else if x = 12 then [6, 11] else if x = 13 then [12] else []
set_option maxRecDepth 100000 in
set_option maxHeartbeats 16000000 in
theorem r11alts_spec {W : World} {I : Mem} (a : Option Addr) (n c : Nat) (l : List Cl) (hv : (rCl.slice 5).rel I [.slice a n c] l) (hok : clE l = 0) :
    ∀ (k : Nat), k < l.length → ∀ (w : World) (A : Assn) (J : Mem), Mem.le I J → Sat W w (sep (kn J) A) →
      Calls Tryz.prog 117 #[.slice a n c, .int .i64 (k : Nat)] w fun e w' => ∃ (b : Option Addr) (m d : Nat) (J' : Mem), e = .returned (.tuple #[.slice b m d, .bool (altN l k).isSome]) ∧ Mem.le J J' ∧ (∀ y, altN l k = some y → m = y.length ∧ (rF.slice 4).rel J' [.slice b m d] y) ∧ Sat W w' (sep (kn J') A) := by
  intro k
  induction k using Nat.strongRecOn with
  | ind k ih =>
  intro hk w A J hle h
  obtain ⟨x, hx⟩ : ∃ x, l[k]? = some x := ⟨_, List.getElem?_eq_getElem hk⟩
  have hn := (slice_len hv).1
  obtain ⟨b, o, ra, rc, p, q, x1, n1, c1, x2, n2, c2, rfl, hrr, hrb, hcell⟩ := cl_elem hv hx
  obtain ⟨hrl, hrp, hbe⟩ : x.refs.length ≤ 8 ∧ refsP x.refs k = true ∧ fmE x.body = 0 := by
    obtain ⟨hk', e⟩ := List.getElem?_eq_some_iff.1 hx
    have := (clE_ok hok).2 k hk'
    rwa [e] at this
  have hbs := fmE_size hbe
  have HTOP := Lib.hid (r11tops_spec x.body w A J p q x1 n1 c1 x2 n2 c2 (rF.mono hle hrb) (by unfold FmB; omega) h)
  obtain ⟨k0, k1, k2, k3, k4⟩ := hcell w (fun i o hb => h.ext i o (hle i o hb))
  obtain ⟨tp, htp⟩ : ∃ z, z = x.body.tops := ⟨_, rfl⟩
  obtain ⟨nr, hnr⟩ : ∃ z, z = x.refs.length := ⟨_, rfl⟩
  obtain ⟨av, hav⟩ : ∃ z, z = altN l k := ⟨_, rfl⟩
  have hae := altN_eq hx
  have HAV : Hid (av = altC (fun r => if r < k then altN l r else none) x) := Lib.hid (by rw [hav, hae])
  have htl : tp.length ≤ 96 := by rw [htp]; have := Fm.tops_len x.body; omega
  have hts : ∀ f ∈ tp, f.size ≤ 96 := fun f hf => by rw [htp] at hf; have := tops_size x.body f hf; omega
  rw [← htp] at HTOP
  rw [← hav]
  rw [← hnr] at hrr k0 hrl
  have HX := Lib.hid (And.intro htp (And.intro hnr (And.intro hrp (And.intro htl hts))))
  have HC := Lib.hid (fun w' (he : Ext J w') => hcell w' (fun i o hb => he i o (hle i o hb)))
  have HRR := Lib.hid (And.intro hrr hle)
  have HIH := Lib.hid ih
  have HOK := Lib.hid (And.intro hok hk)
  have hkz : (k : Int) < (n : Int) := by omega
  have hn63 := (slice_len hv).2.2
  have hnrz : (nr : Int) ≤ 8 := by omega
  simp only [← hnr] at HC
  clear hv hok ih hk hle h hx hn hrr hrb hcell hrl hrp hbe hbs htp hnr hav hae htl hts
  go_enter Tryz.func117, Tryz.ntmps117
  go_wp2_with fail
  refine HTOP.out.mono ?_
  rintro e w1 ⟨ta, tn, tc, J1, rfl, htn, hle1, htr, h1⟩
  clear k0 k1 k2 k3 k4
  obtain ⟨k0, k1, k2, k3, k4⟩ := HC.out w1 (fun i o hb => h1.ext i o (hle1 i o hb))
  have HT := Lib.hid (And.intro htn (And.intro hle1 htr))
  have H1 := Lib.hid h1
  have ht96 : (tn : Int) ≤ 96 := by have := HX.out.2.2.2.1; omega
  clear h1 htn hle1 htr HTOP
  by_cases hr0 : nr = 0
  · subst hr0
    have hrn : x.refs = [] := List.eq_nil_of_length_eq_zero HX.out.2.1.symm
    have HA : Hid (av = if tp.length ≤ 64 then some tp else none) := Lib.hid (by rw [HAV.out]; unfold altC; rw [if_pos hrn, ← HX.out.1])
    clear hrn
    go_wp2
    have ht := HT.out
    refine bodyPost_ret (v := .tuple #[.slice ta tn tc, .bool (decide ((tn : Int) ≤ 64))]) (by simp [results, Tryz.results117, go_sem]) rfl ?_
    refine ⟨ta, tn, tc, J1, ?_, ht.2.1, fun y hy => ?_, H1.out⟩
    · have : av.isSome = decide ((tn : Int) ≤ 64) := by
        rw [HA.out, ← ht.1]
        by_cases h64 : tn ≤ 64
        · rw [if_pos h64, decide_eq_true (by omega)]; rfl
        · rw [if_neg h64, decide_eq_false (by omega)]; rfl
      rw [this]
    · rw [HA.out] at hy
      split at hy
      · cases hy; exact ⟨ht.1, ht.2.2⟩
      · cases hy
  · have hr0z : ((nr : Int) == 0) = false := by simp; omega
    have HA : Hid (av = altRefs (fun r => if r < k then altN l r else none) tp (x.refs.drop 0) []) := Lib.hid (by
      rw [HAV.out]; unfold altC
      rw [if_neg (fun e => hr0 (by rw [HX.out.2.1, e]; rfl)), ← HX.out.1]; rfl)
    clear hr0
    go_upto_region 4 with (fail)
    clear k0 k1 k2 k3 k4 hr0z
    go_wp2_with fail
    go_loopw [7, 8] (fun ov iv wr => ∃ (j m d : Nat) (bO : Option Addr) (vs : List Value) (J2 : Mem) (ol : List Fm), ov = .slice bO m d ∧ iv = .int .i64 j ∧ j ≤ nr ∧ m ≤ 64 ∧ Hid (m = ol.length ∧ av = altRefs (fun r => if r < k then altN l r else none) tp (x.refs.drop j) ol ∧ Mem.le J1 J2 ∧ (rF.rows 4).rel J2 vs ol) ∧ Sat W wr (sep (osl 35 4 bO m d vs) (sep (kn J2) A))) (fun _ iv _ => nr - (intOf iv).toNat)
    case atStart => exact ⟨0, 0, 0, none, [], J1, [], rfl, rfl, by omega, by omega, Lib.hid ⟨rfl, HA.out, Mem.le_refl _, rows_nilv _ _ _⟩, H1.out.osl_nil 35 4⟩
    case round =>
      obtain ⟨j, m, d, bO, vs, J2, ol, rfl, rfl, hj, hm, HV, hS⟩ := hrel
      have hleJ : Mem.le J J2 := Mem.le_trans HT.out.2.1 HV.out.2.2.1
      obtain ⟨k0, -, -, -, -⟩ := HC.out wr (fun i o hb => hS.p1.ext i o (hleJ i o hb))
      by_cases hlt : j < nr
      · as_aux_lemma =>
        have hltz : (j : Int) < (nr : Int) := by omega
        obtain ⟨r, hr⟩ : ∃ r, x.refs[j]? = some r := ⟨_, List.getElem?_eq_getElem (by have := HX.out.2.1; omega)⟩
        obtain ⟨rb, ro, rfl, hrc⟩ := int_elem HRR.out.1 hr
        have hrk := refsP_mem HX.out.2.2.1 r (List.mem_of_getElem? hr)
        obtain ⟨rn, rfl⟩ : ∃ rn : Nat, r = (rn : Int) := ⟨r.toNat, by omega⟩
        have hrk2 : rn < k := by omega
        have c0 := hrc wr (fun i o hb => hS.p1.ext i o (Mem.le_trans HRR.out.2 hleJ i o hb))
        have hrec := HIH.out rn hrk2 (by have := HOK.out.2; omega) wr _ J2 (Mem.le_trans HRR.out.2 hleJ) hS.p1
        have hat := altRefs_at (of := fun r => if r < k then altN l r else none) (own := tp) (out := ol) hr
        simp only [Int.toNat_natCast, if_pos hrk2] at hat
        obtain ⟨al, hal⟩ : ∃ z, z = altN l rn := ⟨_, rfl⟩
        have hsz : ∀ y, al = some y → (∀ f ∈ y, f.size ≤ 96) ∧ y.length ≤ 64 := fun y e => ⟨altN_size HOK.out.1 (by rw [← hal]; exact e), altN_len (by rw [← hal]; exact e)⟩
        rw [← hal] at hrec hat
        have HREC := Lib.hid hrec
        have HAT := Lib.hid (HV.out.2.1.trans hat)
        have HSZ := Lib.hid hsz
        have HJ := Lib.hid (And.intro hlt (And.intro hm hleJ))
        have hmz : (m : Int) ≤ 64 := by omega
        clear hrc hrk hrk2 hr hrec hat hal hsz hlt hm hj hS hleJ H1 HA
        go_upto_region 8 with (fail)
        go_wp2_with fail
        refine HREC.out.mono ?_
        rintro e w2 ⟨xb, xm, xd, J3, rfl, hle3, hres, h2⟩
        clear k0 c0 HREC
        cases al with
        | none =>
          have HF : Hid (av = none) := Lib.hid (by rw [HAT.out])
          have H2 := Lib.hid h2.p1.forget_osl
          have HL := Lib.hid (Mem.le_trans HJ.out.2.2 hle3)
          clear h2 hres hle3
          go_wp2
          refine bodyPost_ret (v := .tuple #[.slice none 0 0, .bool false]) (by simp [results, Tryz.results117, go_sem]) rfl ?_
          exact ⟨none, 0, 0, J3, by rw [HF.out]; rfl, HL.out, fun y hy => (by rw [HF.out] at hy; cases hy), H2.out⟩
        | some xl =>
          obtain ⟨hxm, hxr⟩ := hres xl rfl
          obtain ⟨hxs, hx64⟩ := HSZ.out xl rfl
          obtain ⟨mt, hmt⟩ : ∃ z, z = xm * tn := ⟨_, rfl⟩
          have emt : (xm : Int) * (tn : Int) = (mt : Int) := by rw [hmt]; push_cast; rfl
          have hmtb : mt ≤ 6144 := by
            rw [hmt]
            exact Nat.le_trans (Nat.mul_le_mul (show xm ≤ 64 by omega) (show tn ≤ 96 by omega)) (by decide)
          have H2 := Lib.hid h2.p1
          have HXL := Lib.hid (And.intro hxm (And.intro hxr (And.intro hxs (And.intro hx64 (And.intro (Mem.le_trans HJ.out.2.2 hle3) hle3)))))
          have hmt2 : mt = xl.length * tp.length := by rw [hmt, hxm, HT.out.1]
          have HAT2 := HAT.out
          simp only at HAT2
          rw [← hmt2, ← HV.out.1] at HAT2
          have HAX := Lib.hid HAT2
          have HMT := Lib.hid (And.intro hmt hmt2)
          have hmtz : (mt : Int) ≤ 6144 := by omega
          have hxz : (xm : Int) ≤ 64 := by omega
          clear h2 hres hle3 hxm hxr hxs hx64 hmt hmt2 hmtb HAT2 HAT HSZ
          by_cases h64 : 64 < m + mt
          · have h64z : (64 : Int) < (m : Int) + (mt : Int) := by omega
            have HF : Hid (av = none) := Lib.hid (by rw [HAX.out, if_pos h64])
            have HF2 := Lib.hid H2.out.forget_osl
            clear h64 H2
            go_wp2
            refine bodyPost_ret (v := .tuple #[.slice none 0 0, .bool false]) (by simp [results, Tryz.results117, go_sem]) rfl ?_
            exact ⟨none, 0, 0, J3, by rw [HF.out]; rfl, HXL.out.2.2.2.2.1, fun y hy => (by rw [HF.out] at hy; cases hy), HF2.out⟩
          · have h64z : ¬ (64 : Int) < (m : Int) + (mt : Int) := by omega
            have HAY : Hid (av = match crossO xl tp with | none => none | some y => altRefs (fun r => if r < k then altN l r else none) tp (x.refs.drop (j + 1)) (ol ++ y)) := Lib.hid (by rw [HAX.out, if_neg h64]; rfl)
            have H64 := Lib.hid h64
            clear h64
            go_upto_region 11 with (fail)
            clear h64z emt
            go_wp2_with fail
            go_loopw [7, 11] (fun ov iv wr => ∃ (ia m2 d2 : Nat) (b2 : Option Addr) (vs2 : List Value) (J4 : Mem) (y : List Fm), ov = .slice b2 m2 d2 ∧ iv = .int .i64 ia ∧ ia ≤ xm ∧ Hid (m2 = (ol ++ y).length ∧ crossO (xl.take ia) tp = some y ∧ Mem.le J3 J4 ∧ (rF.rows 4).rel J4 vs2 (ol ++ y)) ∧ Sat W wr (sep (osl 35 4 b2 m2 d2 vs2) (sep (kn J4) A))) (fun _ iv _ => xm - (intOf iv).toNat)
            case atStart => exact ⟨0, m, d, bO, vs, J3, [], rfl, rfl, by omega, Lib.hid ⟨by rw [List.append_nil]; exact HV.out.1, rfl, Mem.le_refl _, by rw [List.append_nil]; exact (rF.rows 4).mono HXL.out.2.2.2.2.2 HV.out.2.2.2⟩, H2.out⟩
            case round =>
              obtain ⟨ia, m2, d2, b2, vs2, J4, y, rfl, rfl, hia, HV2, hS2⟩ := hrel
              by_cases hlt2 : ia < xm
              · as_aux_lemma =>
                have hlt2z : (ia : Int) < (xm : Int) := by omega
                obtain ⟨fa, hfa⟩ : ∃ fa, xl[ia]? = some fa := ⟨_, List.getElem?_eq_getElem (by have := HXL.out.1; omega)⟩
                obtain ⟨ba, oa, pA, qA, y1, e1, z1, y2, e2, z2, rfl, hra, hca⟩ := fm_elem HXL.out.2.1 hfa
                have hylen : y.length = ia * tp.length := by
                  have := crossO_len HV2.out.2.1
                  rw [List.length_take, Nat.min_eq_left (by have := HXL.out.1; omega)] at this
                  exact this
                have hyb : y.length + tp.length ≤ mt := by
                  rw [hylen, HMT.out.2]
                  have h1 : ia + 1 ≤ xl.length := by have := HXL.out.1; omega
                  have h2 := Nat.mul_le_mul_right tp.length h1
                  rw [Nat.add_mul, Nat.one_mul] at h2
                  exact h2
                have HYB := Lib.hid hyb
                have HFA := Lib.hid (And.intro hfa (And.intro (HXL.out.2.2.1 fa (List.mem_of_getElem? hfa)) hlt2))
                have HRA := Lib.hid (And.intro hra hca)
                have HS2 := Lib.hid hS2
                clear hylen hyb hfa hra hca hS2 hlt2 hia H2
                go_upto_region 14 with (fail)
                go_wp2_with fail
                go_loopw [7, 12] (fun ov iv wr => ∃ (ib m3 d3 : Nat) (b3 : Option Addr) (vs3 : List Value) (J5 : Mem), ov = .slice b3 m3 d3 ∧ iv = .int .i64 ib ∧ ib ≤ tn ∧ Hid (m3 = (ol ++ y ++ (tp.take ib).map (pairF fa)).length ∧ (∀ (i : Nat) (fb : Fm), i < ib → tp[i]? = some fb → fmE (pairF fa fb) = 0) ∧ Mem.le J4 J5 ∧ (rF.rows 4).rel J5 vs3 (ol ++ y ++ (tp.take ib).map (pairF fa))) ∧ Sat W wr (sep (osl 35 4 b3 m3 d3 vs3) (sep (kn J5) A))) (fun _ iv _ => tn - (intOf iv).toNat)
                case atStart => exact ⟨0, m2, d2, b2, vs2, J4, rfl, rfl, by omega, Lib.hid ⟨by simp only [List.take_zero, List.map_nil, List.append_nil]; exact HV2.out.1, fun i fb hi _ => absurd hi (Nat.not_lt_zero _), Mem.le_refl _, by simp only [List.take_zero, List.map_nil, List.append_nil]; exact HV2.out.2.2.2⟩, HS2.out⟩
                case round =>
                  obtain ⟨ib, m3, d3, b3, vs3, J5, rfl, rfl, hib, HV3, hS3⟩ := hrel
                  by_cases hlt3 : ib < tn
                  · as_aux_lemma =>
                    have hlt3z : (ib : Int) < (tn : Int) := by omega
                    obtain ⟨fb, hfb⟩ : ∃ fb, tp[ib]? = some fb := ⟨_, List.getElem?_eq_getElem (by have := HT.out.1; omega)⟩
                    obtain ⟨bb, ob, pB, qB, v1, f1, g1, v2, f2, g2, rfl, hrb, hcb⟩ := fm_elem HT.out.2.2 hfb
                    have hle35 : Mem.le J3 J5 := Mem.le_trans HV2.out.2.2.1 HV3.out.2.2.1
                    have hle15 : Mem.le J1 J5 := Mem.le_trans (Mem.le_trans HV.out.2.2.1 HXL.out.2.2.2.2.2) hle35
                    have HCA := Lib.hid (fun w' (he : Ext J5 w') => HRA.out.2 w' (fun i o hb => he i o (hle35 i o hb)))
                    have HCB := Lib.hid (fun w' (he : Ext J5 w') => hcb w' (fun i o hb => he i o (hle15 i o hb)))
                    have HRF := Lib.hid (And.intro (rF.mono hle35 HRA.out.1) (rF.mono hle15 hrb))
                    have HFB := Lib.hid (And.intro hfb (And.intro (HX.out.2.2.2.2 fb (List.mem_of_getElem? hfb)) hlt3))
                    have HM3 : Hid (m3 + 1 ≤ 64) := Lib.hid (by
                      have h1 := HV3.out.1
                      rw [List.length_append, List.length_append, List.length_map, List.length_take, Nat.min_eq_left (by have := HT.out.1; omega)] at h1
                      have := HYB.out; have := HT.out.1; have := H64.out; have := HV.out.1; omega)
                    have hd := hS3.drew
                    have HD := Lib.hid hd
                    have HS3 := Lib.hid hS3
                    clear hrb hcb hle35 hle15 hfb hS3 hlt3 hib hd HS2
                    go_upto_region 17 with (fail)
                    go_cut [13] from 73 to 99 (fun v wx => ∃ (g : Nat) (pa : Option Addr) (pm pd : Nat) (J6 : Mem), v = .pointer (some ⟨g, 0, none⟩) ∧ Mem.le J5 J6 ∧ rF.rel J6 [.int .i64 4, .int .i64 0, .slice none 0 0, .slice pa pm pd] (pairF fa fb) ∧ Sat W wx (sep (blk g (.cells #[.int .i64 4, .int .i64 0, .slice none 0 0, .slice pa pm pd] 35 (0, 0))) (sep (kn J6) (sep (osl 35 4 b3 m3 d3 vs3) A))))
                    case first =>
                      as_aux_lemma =>
                      /-DEV1-/
                      obtain ⟨a0, a1, a2, a3⟩ := HCA.out wr.drew HD.out.p1.ext
                      obtain ⟨b0, b1, b4, b5⟩ := HCB.out wr.drew HD.out.p1.ext
                      have hS0 : (wr.drew.cell? ⟨ba, oa + ia * 4, none⟩ = some (.int .i64 pA) ∧ wr.drew.cell? ⟨ba, oa + ia * 4 + 1, none⟩ = some (.int .i64 qA) ∧ wr.drew.cell? ⟨ba, oa + ia * 4 + 2, none⟩ = some (.slice y1 e1 z1) ∧ wr.drew.cell? ⟨ba, oa + ia * 4 + 3, none⟩ = some (.slice y2 e2 z2)) ∧ (wr.drew.cell? ⟨bb, ob + ib * 4, none⟩ = some (.int .i64 pB) ∧ wr.drew.cell? ⟨bb, ob + ib * 4 + 1, none⟩ = some (.int .i64 qB) ∧ wr.drew.cell? ⟨bb, ob + ib * 4 + 2, none⟩ = some (.slice v1 f1 g1) ∧ wr.drew.cell? ⟨bb, ob + ib * 4 + 3, none⟩ = some (.slice v2 f2 g2)) := ⟨⟨a0, a1, a2, a3⟩, b0, b1, b4, b5⟩
                      clear a0 a1 a2 a3 b0 b1 b4 b5
                      refine wp_region_itemsJW rfl (fun w' => (w'.cell? ⟨ba, oa + ia * 4, none⟩ = some (.int .i64 pA) ∧ w'.cell? ⟨ba, oa + ia * 4 + 1, none⟩ = some (.int .i64 qA) ∧ w'.cell? ⟨ba, oa + ia * 4 + 2, none⟩ = some (.slice y1 e1 z1) ∧ w'.cell? ⟨ba, oa + ia * 4 + 3, none⟩ = some (.slice y2 e2 z2)) ∧ (w'.cell? ⟨bb, ob + ib * 4, none⟩ = some (.int .i64 pB) ∧ w'.cell? ⟨bb, ob + ib * 4 + 1, none⟩ = some (.int .i64 qB) ∧ w'.cell? ⟨bb, ob + ib * 4 + 2, none⟩ = some (.slice v1 f1 g1) ∧ w'.cell? ⟨bb, ob + ib * 4 + 3, none⟩ = some (.slice v2 f2 g2))) [.one 1 .p, .one 2 .p, .one 3 .p, .one 4 .s, .one 7 .p, .one 8 .p, .one 9 .p, .one 10 .s, .grp true [(0, []), (5, []), (6, []), (11, []), (12, []), (13, []), (14, [])], .one 15 (.e false)] (by kernel_rfl) ?_
                      (repeat ((first | (refine J_p (v := ?_) rfl rfl (fun w' => ?_) ?_; rotate_left; (go_simp; with_reducible rfl)) | (refine J_s (v := ?_) rfl rfl hS0 (fun w' hS => ?_) ?_; rotate_left; ((try dsimp only at hS); go_simp; with_reducible rfl)) | (refine J_t (v := ?_) rfl rfl ?_ ?_; rotate_left; (go_simp; with_reducible rfl)) | (refine J_po rfl rfl ?_) | (refine J_so rfl rfl hS0 ?_) | (refine J_to rfl rfl ?_)); simp only [Act.put, List.setIfInBounds_toArray, List.set_cons_zero, List.set_cons_succ]))
                      refine J_grp (n := 7) rfl ?_
                      have hT0 : Sat W wr.drew (pairT 35 35 J5 fa.parts fb.parts (sep (osl 35 4 b3 m3 d3 vs3) A) (fun _ => none)) :=
                        pairT_iff.2 ⟨⟨J5, [], none, 0, 0⟩, ⟨Mem.le_refl _, fun _ h => (by cases h), fun _ h => (by cases h), fun _ h => (by cases h), fun _ h => (by cases h), fun _ h => (by cases h), fun _ h => (by cases h)⟩, by
                          rw [pairE_none rfl, pairB_none rfl, emp_sep, emp_sep]
                          exact HD.out.p1⟩
                      have HPA := Lib.hid (fun w' A' J' (hl : Mem.le J5 J') (h' : Sat W w' (sep (kn J') A')) => r11parts_spec (I := J') fa pA qA y1 e1 z1 y2 e2 z2 (rF.mono hl HRF.out.1) h')
                      have HPB := Lib.hid (fun w' A' J' (hl : Mem.le J5 J') (h' : Sat W w' (sep (kn J') A')) => r11parts_spec (I := J') fb pB qB v1 f1 g1 v2 f2 g2 (rF.mono hl HRF.out.2) h')
                      have hpl : fa.parts.length ≤ 97 ∧ fb.parts.length ≤ 97 := by
                        have key : ∀ l : List Fm, l.length ≤ Fm.sizes l := by
                          intro l
                          induction l with
                          | nil => simp
                          | cons g l ih => rw [Fm.sizes, List.length_cons]; have : 1 ≤ g.size := by cases g; rw [Fm.size]; omega
                                           omega
                        have h1 := key fa.parts; have h2 := key fb.parts
                        have h3 := parts_size fa; have h4 := parts_size fb
                        have := HFA.out.2.1; have := HFB.out.2.1
                        omega
                      have HPL := Lib.hid hpl
                      have HT0 := Lib.hid hT0
                      clear hpl hT0 hS0
                      refine wpGrpG_dag [0, 5, 6, 11, 12, 13, 14] pairD (pairT 35 35 J5 fa.parts fb.parts (sep (osl 35 4 b3 m3 d3 vs3) A)) (by kernel_rfl) (by kernel_rfl) ?_ ?_ ?_ 7 [0, 5, 6, 11, 12, 13, 14] (fun _ => none) wr.drew rfl (by decide) (fun z => by simp) (fun _ _ h => by cases h) HT0.out
                      · intro _ f w' hT
                        obtain ⟨q', hp', hq'⟩ := pairT_iff.1 hT
                        have he : Ext J5 w' := fun i o hb => hq'.ext i o (hp'.le i o hb)
                        obtain ⟨a0, a1, a2, a3⟩ := HCA.out w' he
                        obtain ⟨b0, b1, b4, b5⟩ := HCB.out w' he
                        exact ⟨⟨a0, a1, a2, a3⟩, b0, b1, b4, b5⟩
                      · intro i hi f w' o' ho hfi hdep hcl hT
                        simp only [List.mem_cons, List.not_mem_nil, or_false] at hi
                        have hno : ∀ y z, y ∈ [0, 5, 6, 11, 12, 13, 14] → z ∈ pairD y → f z = none → f y = none := fun y z hy hz hf => by
                          cases hfy : f y with
                          | none => rfl
                          | some v => have := hcl y hy (by rw [hfy]; rfl) z hz; rw [hf] at this; cases this
                        rcases hi with rfl | rfl | rfl | rfl | rfl | rfl | rfl
                        · as_aux_lemma =>
                          cases ho
                          have h6 := hno 6 0 (by decide) (by decide) hfi
                          have h12 := hno 12 6 (by decide) (by decide) h6
                          refine .inl ⟨.slice (some ⟨w'.heap.size, 0, none⟩) 0 0, w'.alloc (.cells #[] 35), ?_, pair_0 hfi h6 h12 (fun q' _ hq' => (hq'.alloc (.cells #[] 35)).osl_mk 0 0 4 [] rfl (by omega) (by unfold maxLen; omega) rfl rfl) hT⟩
                          · go_simp
                        · as_aux_lemma =>
                          cases ho
                          obtain ⟨q', hp', hq'⟩ := pairT_iff.1 hT
                          refine .inr ⟨127, #[.agg #[.int .i64 pA, .int .i64 qA, .slice y1 e1 z1, .slice y2 e2 z2]], w', ?_, (HPA.out w' _ q'.J hp'.le hq').mono ?_⟩
                          · (go_simp; try rfl)
                          · rintro e w'' ⟨aR, nR, cR, JR, rfl, hnR, hleR, hrR, hR⟩
                            exact ⟨_, rfl, pair_call (by decide) hp' hleR (fun _ => ⟨aR, nR, cR, rfl, hnR, hrR⟩) (fun h => by cases h) hR⟩
                        · as_aux_lemma =>
                          cases ho
                          obtain ⟨v0, hv0⟩ := Option.isSome_iff_exists.1 (hdep 0 (by decide))
                          obtain ⟨v5, hv5⟩ := Option.isSome_iff_exists.1 (hdep 5 (by decide))
                          have h12 := hno 12 6 (by decide) (by decide) hfi
                          have h13 := hno 13 12 (by decide) (by decide) h12
                          obtain ⟨q', hp', hq'⟩ := pairT_iff.1 hT
                          obtain ⟨rfl, hqn, hqu⟩ := hp'.e0 v0 hv0 hfi
                          obtain ⟨aR, nR, cR, rfl, hnR, hrR⟩ := hp'.r5 v5 hv5
                          obtain ⟨us, hul, hu0, hu1, hur, husrc⟩ := fms_src hrR
                          rw [pairE_some hv0] at hq'
                          refine (does_append (.tmp 79) (.tmp 84) 28 rfl 35 4 64 _ Tryz.underlying28 infoFm rfl (by simp [putF, List.filter, pairD, hv0, hv5, dstOf, Act.put, Act.eval]) hq'.p1 (x := aR) (m := nR) (cc := cR) (by simp [putF, List.filter, pairD, hv0, hv5, dstOf, Act.put, Act.eval]) us hul hu0 (husrc w' hq'.ext) hu1 (by have := HPL.out; omega) (by unfold maxLen; have := HPL.out; omega)).mono ?_
                          rintro v w'' ⟨a', c', rfl, h'⟩
                          refine pair_app (.inl rfl) hp' hv0 (fun _ => ⟨h12, by omega, by rw [hqu]; exact hur⟩) h13 (fun h => by cases h) h'
                        · as_aux_lemma =>
                          cases ho
                          obtain ⟨q', hp', hq'⟩ := pairT_iff.1 hT
                          refine .inr ⟨127, #[.agg #[.int .i64 pB, .int .i64 qB, .slice v1 f1 g1, .slice v2 f2 g2]], w', ?_, (HPB.out w' _ q'.J hp'.le hq').mono ?_⟩
                          · (go_simp; try rfl)
                          · rintro e w'' ⟨aR, nR, cR, JR, rfl, hnR, hleR, hrR, hR⟩
                            exact ⟨_, rfl, pair_call (by decide) hp' hleR (fun h => by cases h) (fun _ => ⟨aR, nR, cR, rfl, hnR, hrR⟩) hR⟩
                        · as_aux_lemma =>
                          cases ho
                          obtain ⟨v6, hv6⟩ := Option.isSome_iff_exists.1 (hdep 6 (by decide))
                          obtain ⟨v11, hv11⟩ := Option.isSome_iff_exists.1 (hdep 11 (by decide))
                          obtain ⟨v0, hv0⟩ := Option.isSome_iff_exists.1 (hcl 6 (by decide) (by rw [hv6]; rfl) 0 (by decide))
                          have h13 := hno 13 12 (by decide) (by decide) hfi
                          obtain ⟨q', hp', hq'⟩ := pairT_iff.1 hT
                          obtain ⟨rfl, hqn, hqr⟩ := hp'.e6 v6 hv6 hfi
                          obtain ⟨aR, nR, cR, rfl, hnR, hrR⟩ := hp'.r11 v11 hv11
                          obtain ⟨us, hul, hu0, hu1, hur, husrc⟩ := fms_src hrR
                          rw [pairE_some hv0] at hq'
                          refine (does_append (.tmp 85) (.tmp 90) 28 rfl 35 4 64 _ Tryz.underlying28 infoFm rfl (by simp [putF, List.filter, pairD, hv6, hv11, dstOf, Act.put, Act.eval]) hq'.p1 (x := aR) (m := nR) (cc := cR) (by simp [putF, List.filter, pairD, hv6, hv11, dstOf, Act.put, Act.eval]) us hul hu0 (husrc w' hq'.ext) hu1 (by have := HPL.out; omega) (by unfold maxLen; have := HPL.out; omega)).mono ?_
                          rintro v w'' ⟨a', c', rfl, h'⟩
                          refine pair_app (.inr rfl) hp' hv0 (fun h => by cases h) h13 (fun _ => ⟨by rw [hv6]; rfl, by omega, rows_append hqr hur⟩) h'
                        · as_aux_lemma =>
                          cases ho
                          obtain ⟨v12, hv12⟩ := Option.isSome_iff_exists.1 (hdep 12 (by decide))
                          obtain ⟨q', hp', hq'⟩ := pairT_iff.1 hT
                          obtain ⟨rfl, -, -⟩ := hp'.e12 v12 hv12
                          clear hp' hq'
                          refine .inl ⟨_, w', ?_, pair_13 hv12 hT⟩
                          simp [putF, List.filter, pairD, hv12, dstOf, Act.put]
                          (go_simp; try rfl)
                        · as_aux_lemma =>
                          cases ho
                          refine .inl ⟨.pointer (some ⟨w'.heap.size, 0, none⟩), w'.alloc (.cells #[.int .i64 0, .int .i64 0, .slice none 0 0, .slice none 0 0] 35), ?_, pair_14 hfi (fun q' hq' => hq'.alloc _) hT⟩
                          · (go_simp; try rfl)
                      · as_aux_lemma =>
                        intro f w' hall hT
                        obtain ⟨v0, hv0⟩ := Option.isSome_iff_exists.1 (hall 0 (by decide))
                        obtain ⟨v5, hv5⟩ := Option.isSome_iff_exists.1 (hall 5 (by decide))
                        obtain ⟨v6, hv6⟩ := Option.isSome_iff_exists.1 (hall 6 (by decide))
                        obtain ⟨v11, hv11⟩ := Option.isSome_iff_exists.1 (hall 11 (by decide))
                        obtain ⟨v12, hv12⟩ := Option.isSome_iff_exists.1 (hall 12 (by decide))
                        obtain ⟨v13, hv13⟩ := Option.isSome_iff_exists.1 (hall 13 (by decide))
                        obtain ⟨v14, hv14⟩ := Option.isSome_iff_exists.1 (hall 14 (by decide))
                        obtain ⟨q', hp', hq'⟩ := pairT_iff.1 hT
                        obtain ⟨rfl, hqn, hqr⟩ := hp'.e12 v12 hv12
                        obtain ⟨u, hu, rfl⟩ := hp'.e13 v13 hv13
                        rw [hv12] at hu
                        cases hu
                        rw [pairE_some hv0, pairB_some hv14] at hq'
                        have hq2 := hq'.p2
                        rw [ex_sep, Sat.ex] at hq2
                        obtain ⟨g, hq2⟩ := hq2
                        rw [sep_assoc] at hq2
                        obtain ⟨rfl, hB⟩ := Sat.fact.1 hq2
                        obtain ⟨⟨qJ, qus, qa, qn, qc⟩, rfl⟩ : ∃ z, z = q' := ⟨_, rfl⟩
                        dsimp only at hqn hqr hB hv12 hv13
                        have hle6 : Mem.le J5 qJ := hp'.le
                        obtain ⟨k0, k1, k2, k3⟩ := fm4 hB
                        have u0 : w'.frozen? ⟨g, 0, none⟩ = false := hB.unfrozen 0
                        have u1 : w'.frozen? ⟨g, 1, none⟩ = false := hB.unfrozen 1
                        have u2 : w'.frozen? ⟨g, 2, none⟩ = false := hB.unfrozen 2
                        have u3 : w'.frozen? ⟨g, 3, none⟩ = false := hB.unfrozen 3
                        have hB2 := fm4_set hB (.int .i64 4) (.int .i64 0) (.slice none 0 0) (.slice qa qn qc)
                        obtain ⟨wz, hwz⟩ : ∃ z, z = (((w'.setCell ⟨g, 0, none⟩ (.int .i64 4)).setCell ⟨g, 1, none⟩ (.int .i64 0)).setCell ⟨g, 2, none⟩ (.slice none 0 0)).setCell ⟨g, 3, none⟩ (.slice qa qn qc) := ⟨_, rfl⟩
                        rw [← hwz] at hB2
                        obtain ⟨J6, hle7, hrl, hB3⟩ := fms_settle hqr (by rw [List.length_append]; exact hqn) (show Sat W wz (sep (osl 35 4 qa qn qc qus) (sep (kn qJ) (sep (blk g (.cells #[.int .i64 4, .int .i64 0, .slice none 0 0, .slice qa qn qc] 35 (0, 0))) (sep (osl 35 4 b3 m3 d3 vs3) A)))) from by have h9 := hB2; simpa only [sep_comm, sep_lcomm, sep_assoc] using h9)
                        have hlen : qn = (fa.parts ++ fb.parts).length := by rw [List.length_append]; exact hqn
                        have HZ := Lib.hid (And.intro (Mem.le_trans hle6 hle7) (And.intro hrl (And.intro hB3 hlen)))
                        have HWZ := Lib.hid hwz
                        simp only [putF, List.foldl, hv0, hv5, hv6, hv11, hv12, hv13, hv14, dstOf]
                        clear hq' hq2 hB hB2 hwz hqn hqr hrl hB3 hlen hle6 hle7 hp' hT hall hv0 hv5 hv6 hv11 hv12 hv13 hv14
                        simp only [Act.put, List.getElem?_toArray, List.getElem?_cons_zero, List.getElem?_cons_succ, Option.bind_some, List.setIfInBounds_toArray, List.set_cons_zero, List.set_cons_succ]
                        (refine J_e rfl rfl (fun K hK => ?_); go_simp)
                        rw [← HWZ.out]
                        (refine hK _ _ (fun h => by cases h) ?_; clear hK K; (try simp only [Act.put, List.setIfInBounds_toArray, List.set_cons_zero, List.set_cons_succ]))
                        (repeat ((first | (refine J_p (v := ?_) rfl rfl (fun w' => ?_) ?_; rotate_left; (go_simp; with_reducible rfl)) | (refine J_s (v := ?_) rfl rfl hS0 (fun w' hS => ?_) ?_; rotate_left; ((try dsimp only at hS); go_simp; with_reducible rfl)) | (refine J_t (v := ?_) rfl rfl ?_ ?_; rotate_left; (go_simp; with_reducible rfl)) | (refine J_po rfl rfl ?_) | (refine J_so rfl rfl hS0 ?_) | (refine J_to rfl rfl ?_)); simp only [Act.put, List.setIfInBounds_toArray, List.set_cons_zero, List.set_cons_succ]))
                        refine J_nil ?_
                        clear k0 k1 k2 k3 u0 u1 u2 u3
                        go_wp2
                        go_meet
                        case rel => exact ⟨g, qa, qn, qc, J6, rfl, HZ.out.1, by rw [HZ.out.2.2.2]; exact rF_kids (by rw [← HZ.out.2.2.2]; exact HZ.out.2.1), HZ.out.2.2.1.p1⟩
                      /-VED1-/
                    case rest =>
                      as_aux_lemma =>
                      /-DEV2-/
                      obtain ⟨g, pa, pm, pd, J6, rfl, hle6, hrp, hSw⟩ := hcut
                      obtain ⟨k0, k1, k2, k3⟩ := fm4 hSw
                      have HVA := Lib.hid (r07valid_spec (pairF fa fb) 4 0 none 0 0 pa pm pd hrp (by have h1 := pairF_size fa fb; have := HFA.out.2.1; have := HFB.out.2.1; unfold FmB; omega) hSw.p1)
                      obtain ⟨fe, hfe⟩ : ∃ z, z = fmE (pairF fa fb) := ⟨_, rfl⟩
                      rw [← hfe] at HVA
                      have HFE := Lib.hid hfe
                      have HR6 := Lib.hid (And.intro hle6 hrp)
                      clear hle6 hrp hSw hfe HD
                      go_wp2_with fail
                      refine HVA.out.mono ?_
                      rintro e w3 ⟨rfl, h3⟩
                      clear k0 k1 k2 k3 HVA
                      have H3 := Lib.hid (show Sat W w3 (sep (blk g (.cells #[.int .i64 4, .int .i64 0, .slice none 0 0, .slice pa pm pd] 35 (0, 0))) (sep (kn J6) (sep (osl 35 4 b3 m3 d3 vs3) A))) from h3.p1)
                      clear h3
                      by_cases he0 : fe = 0
                      · subst he0
                        obtain ⟨k0, k1, k2, k3⟩ := fm4 H3.out
                        have HSRC := Lib.hid (new_src w3 [.int .i64 4, .int .i64 0, .slice none 0 0, .slice pa pm pd] 35)
                        have HAL := Lib.hid (H3.out.drop.p1.alloc0 (.cells #[.int .i64 4, .int .i64 0, .slice none 0 0, .slice pa pm pd] 35))
                        clear H3
                        go_upto_region 20 with (fail)
                        go_wp2_with (at_builtin; refine wpl_append_osl rfl _ _ 28 rfl 35 4 64 _ Tryz.underlying28 infoFm rfl rfl HAL.out rfl [.int .i64 4, .int .i64 0, .slice none 0 0, .slice pa pm pd] rfl (by simp) (by intro b' hb; cases hb; exact HSRC.out) (rF_onev HR6.out.2) (by have := HM3.out; omega) (by unfold maxLen; have := HM3.out; omega) ?_)
                        intro a7 c7 w7 h7
                        have H7 := Lib.hid h7
                        clear h7 HAL HSRC k0 k1 k2 k3
                        go_wp2
                        go_roundw
                        case rel =>
                          have htk : tp.take (ib + 1) = tp.take ib ++ [fb] := by rw [List.take_add_one, HFB.out.1]; rfl
                          refine ⟨ib + 1, m3 + 1, c7, a7, _, J6, rfl, by go_num, by have := HFB.out.2.2; omega, Lib.hid ⟨?_, fun i fb' hi hf => ?_, Mem.le_trans HV3.out.2.2.1 HR6.out.1, ?_⟩, H7.out⟩
                          · rw [htk, List.map_append, ← List.append_assoc, List.length_append, ← HV3.out.1]; rfl
                          · rcases Nat.lt_succ_iff_lt_or_eq.1 hi with hi | rfl
                            · exact HV3.out.2.1 i fb' hi hf
                            · rw [HFB.out.1] at hf; cases hf; exact HFE.out.symm
                          · rw [htk, List.map_append, ← List.append_assoc]
                            exact rows_append ((rF.rows 4).mono HR6.out.1 HV3.out.2.2.2) (rows_one HR6.out.2 rfl)
                        case measure => simp [intOf]; have := HFB.out.2.2; omega
                      · have he1 : (fe != 0) = true := by simpa using he0
                        have he2 : (fe == 0) = false := by simpa using he0
                        have HF : Hid (av = none) := Lib.hid (by
                          rw [HAY.out, crossO_bad (List.mem_of_getElem? HFA.out.1) (List.mem_of_getElem? HFB.out.1) (by rw [← HFE.out]; exact he0)])
                        have HL : Hid (Mem.le J J6) := Lib.hid (Mem.le_trans (Mem.le_trans (Mem.le_trans HXL.out.2.2.2.2.1 HV2.out.2.2.1) HV3.out.2.2.1) HR6.out.1)
                        have HF2 := Lib.hid (H3.out.drop.p1.forget_osl)
                        clear he0 H3
                        go_wp2
                        refine bodyPost_ret (v := .tuple #[.slice none 0 0, .bool false]) (by simp [results, Tryz.results117, go_sem]) rfl ?_
                        exact ⟨none, 0, 0, J6, by rw [HF.out]; rfl, HL.out, fun y hy => (by rw [HF.out] at hy; cases hy), HF2.out⟩
                      /-VED2-/
                  · obtain rfl : ib = tn := by omega
                    have HS4 := Lib.hid hS3
                    clear hS3 HS2
                    go_wp2
                    go_roundw
                    case rel =>
                      have htk : tp.take ib = tp := List.take_of_length_le (by have := HT.out.1; omega)
                      have hv3 := HV3.out
                      rw [htk] at hv3
                      refine ⟨ia + 1, m3, d3, b3, vs3, J5, y ++ tp.map (pairF fa), rfl, by go_num, by have := HFA.out.2.2; omega, Lib.hid ⟨by rw [← List.append_assoc]; exact hv3.1, crossO_take HFA.out.1 HV2.out.2.1 (rowOK_of fun i fb hf => hv3.2.1 i fb (by have := (List.getElem?_eq_some_iff.1 hf).1; have := HT.out.1; omega) hf), Mem.le_trans HV2.out.2.2.1 hv3.2.2.1, by rw [← List.append_assoc]; exact hv3.2.2.2⟩, HS4.out⟩
                    case measure => simp [intOf]; have := HFA.out.2.2; omega
              · obtain rfl : ia = xm := by omega
                have HS4 := Lib.hid hS2
                clear hS2 H2
                go_wp2
                go_roundw
                case rel =>
                  have hc := HV2.out.2.1
                  rw [List.take_of_length_le (by have := HXL.out.1; omega)] at hc
                  have hay := HAY.out
                  rw [hc] at hay
                  have hm2 : m2 ≤ 64 := by
                    rw [HV2.out.1, List.length_append, crossO_len hc, ← HMT.out.2, ← HV.out.1]
                    have := H64.out; omega
                  exact ⟨j + 1, m2, d2, b2, vs2, J4, ol ++ y, rfl, by go_num, by have := HJ.out.1; omega, hm2, Lib.hid ⟨HV2.out.1, hay, Mem.le_trans (Mem.le_trans HV.out.2.2.1 HXL.out.2.2.2.2.2) HV2.out.2.2.1, HV2.out.2.2.2⟩, HS4.out⟩
                case measure => simp [intOf]; have := HJ.out.1; omega
      · obtain rfl : j = nr := by omega
        have hfin : av = some ol := by rw [HV.out.2.1]; exact altRefs_end (by have := HX.out.2.1; omega)
        obtain ⟨J', hle', hr', h'⟩ := fms_settle HV.out.2.2.2 HV.out.1 hS
        have HF := Lib.hid (And.intro hfin (And.intro (Mem.le_trans hleJ hle') (And.intro hr' h')))
        clear hfin hle' hr' h' hS hleJ H1
        go_wp2
        refine bodyPost_ret (v := .tuple #[.slice bO m d, .bool true]) (by simp [results, Tryz.results117, go_sem]) rfl ?_
        exact ⟨bO, m, d, J', by rw [HF.out.1]; rfl, HF.out.2.1, fun y hy => (by rw [HF.out.1] at hy; cases hy; exact ⟨HV.out.1, HF.out.2.2.1⟩), HF.out.2.2.2⟩
end Go.Proofs.YtodipneapffjdaaGreatDoor
