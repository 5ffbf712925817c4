/- The reference's Alts of claims, Disclosed and Valid of texts. -/
import Derived.Test.YtodipneapffjdaaGreatDoorGActsSortSVl
namespace PA
open Go Go.RowKit
theorem fmsE_drop {l : List Fm} {j : Nat} {f : Fm} (h : l[j]? = some f) : fmsE (l.drop j) = if fmE f ≠ 0 then fmE f else fmsE (l.drop (j + 1)) := by
  obtain ⟨hj, rfl⟩ := List.getElem?_eq_some_iff.1 h
  rw [List.drop_eq_getElem_cons hj, fmsE]
theorem altsN_bad {l : List Cl} {k : Nat} (h : altN l k = none) : ∀ n, k < n → altsN l n = none
  | 0, h0 => absurd h0 (Nat.not_lt_zero _)
  | n + 1, h0 => by
    unfold altsN
    rcases Nat.lt_succ_iff_lt_or_eq.1 h0 with h1 | rfl
    · rw [altsN_bad h n h1]
    · rw [h]; cases altsN l k <;> rfl
theorem altsN_succ {l : List Cl} {n s : Nat} {y : List Fm} (h1 : altsN l n = some s) (h2 : altN l n = some y) : altsN l (n + 1) = some (s + y.length) := by
  unfold altsN; rw [h1, h2]
end PA
namespace Go.Proofs.YtodipneapffjdaaGreatDoor
open Go.RowKit PA
set_option maxHeartbeats 1000000 in
theorem r11alts_ok {W w : World} {A : Assn} {I : Mem} (a : Option Addr) (n c : Nat) (l : List Cl) (hv : (rCl.slice 5).rel I [.slice a n c] l) (hok : clE l = 0) (hB : ∀ x ∈ l, x.body.size ≤ FmB) (k : Nat) (hk : k < l.length) (h : Sat W w (sep (kn I) A)) :
    Calls Tryz.prog 107 #[.slice a n c, .int .i64 (k : Nat)] w fun e w' => ∃ (b : Option Addr) (m d : Nat) (J : Mem), e = .returned (.tuple #[.slice b m d, .int .i64 (if (altN l k).isSome = true then 0 else 4)]) ∧ Mem.le I J ∧ (∀ y, altN l k = some y → m = y.length ∧ (rF.slice 4).rel J [.slice b m d] y) ∧ Sat W w' (sep (kn J) A) := by
  have hn := (slice_len hv).1
  have hn63 := (slice_len hv).2.2
  have hvs : ∀ w' A', Sat W w' (sep (kn I) A') → Calls Tryz.prog 59 #[.slice a n c] w' fun e w'' => e = .returned (.int .i64 0) ∧ Sat W w'' (sep (kn I) A') := fun w' A' h' => by
    have := r11valid_spec a n c l hv hB h'
    rw [hok] at this; exact this
  have hcs : ∀ w' A', Sat W w' (sep (kn I) A') → Calls Tryz.prog 116 #[.slice a n c, .int .i64 (k : Nat)] w' fun e w'' => e = .returned (.int .i64 0) ∧ Sat W w'' (sep (kn I) A') := fun w' A' h' => by
    have HV := Lib.hid (hvs w' A' h')
    have hkz : (k : Int) < (n : Int) := by omega
    have hk0 : ¬ (k : Int) < 0 := by omega
    clear hvs h' hv hB hok hn hk
    go_enter Tryz.func116, Tryz.ntmps116
    go_wp2_with fail
    refine HV.out.mono ?_
    rintro e w2 ⟨rfl, h2⟩
    have H2 := Lib.hid h2
    clear h2 HV
    go_wp2
    go_ret
    exact ⟨rfl, H2.out⟩
  have HCS := Lib.hid (hcs w A h)
  have HAL := Lib.hid (fun w' (h' : Sat W w' (sep (kn I) A)) => r11alts_spec a n c l hv hok k hk w' A I (Mem.le_refl _) h')
  obtain ⟨av, hav⟩ : ∃ z, z = altN l k := ⟨_, rfl⟩
  rw [← hav] at HAL ⊢
  obtain ⟨Po, hPo⟩ : ∃ P : Ending → World → Prop, P = fun e w' => ∃ (b : Option Addr) (m d : Nat) (J : Mem), e = .returned (.tuple #[.slice b m d, .int .i64 (if av.isSome = true then 0 else 4)]) ∧ Mem.le I J ∧ (∀ y, av = some y → m = y.length ∧ (rF.slice 4).rel J [.slice b m d] y) ∧ Sat W w' (sep (kn J) A) := ⟨_, rfl⟩
  rw [← hPo]
  have HPO := Lib.hid hPo
  clear hvs hcs h hv hB hok hn hk hav hPo
  go_enter Tryz.func107, Tryz.ntmps107
  go_wp2_with fail
  refine HCS.out.mono ?_
  rintro e w2 ⟨rfl, h2⟩
  have H2 := Lib.hid h2
  clear h2 HCS
  go_wp2_with fail
  refine (HAL.out _ H2.out).mono ?_
  rintro e w3 ⟨b, m, d, J, rfl, hle, hres, h3⟩
  have H3 := Lib.hid (And.intro hle (And.intro hres h3))
  clear hle hres h3 H2 HAL
  cases av with
  | none =>
    go_wp2
    rw [HPO.out]
    exact ⟨none, 0, 0, J, rfl, H3.out.1, fun y hy => (by cases hy), H3.out.2.2⟩
  | some y =>
    go_wp2
    rw [HPO.out]
    exact ⟨b, m, d, J, rfl, H3.out.1, H3.out.2.1, H3.out.2.2⟩
set_option maxRecDepth 100000 in
set_option maxHeartbeats 8000000 in
theorem r12disclosed_spec {W w : World} {A : Assn} {I : Mem} (ta : Option Addr) (tn tc : Nat) (ca : Option Addr) (cn cc : Nat) (td : List Fm) (cl : List Cl) (ht : (rF.slice 4).rel I [.slice ta tn tc] td) (hc : (rCl.slice 5).rel I [.slice ca cn cc] cl) (hT : ∀ f ∈ td, f.size ≤ FmB) (hB : ∀ x ∈ cl, x.body.size ≤ FmB) (h : Sat W w (sep (kn I) A)) :
    Calls Tryz.prog 82 #[.agg #[.slice ta tn tc, .slice ca cn cc]] w fun e w' => ∃ v J, e = .returned (.tuple #[v, .int .i64 (txE td cl)]) ∧ Mem.le I J ∧ Sat W w' (sep (kn J) A) := by
  have htn := (slice_len ht).1
  have ht63 := (slice_len ht).2.2
  have hcn := (slice_len hc).1
  have hc63 := (slice_len hc).2.2
  have h1 := h.alloc (.cells #[.slice ta tn tc, .slice ca cn cc] 31)
  obtain ⟨B, hBb⟩ : ∃ B, B = w.heap.size := ⟨_, rfl⟩
  obtain ⟨w1, hw1⟩ : ∃ z, z = w.alloc (.cells #[.slice ta tn tc, .slice ca cn cc] 31) := ⟨_, rfl⟩
  rw [← hBb, ← hw1] at h1
  have HB := Lib.hid (And.intro hBb hw1)
  have H1 := Lib.hid h1
  obtain ⟨k0, k1, -, -⟩ := rt2 h1
  obtain ⟨rv, hrv⟩ : ∃ z, z = txE td cl := ⟨_, rfl⟩
  rw [← hrv]
  obtain ⟨Po, hPo⟩ : ∃ P : Ending → World → Prop, P = fun e w' => ∃ v J, e = .returned (.tuple #[v, .int .i64 rv]) ∧ Mem.le I J ∧ Sat W w' (sep (kn J) A) := ⟨_, rfl⟩
  rw [← hPo]
  have HPO := Lib.hid hPo
  clear hPo
  have HRV : Hid (rv = if 16 < tn then 4 else if fmsE td ≠ 0 then fmsE td else if clE cl ≠ 0 then clE cl else match altsN cl cl.length with | none => 4 | some s => if 128 < (Fm.topss td).length + s then 4 else 0) := Lib.hid (by rw [hrv, htn]; rfl)
  have HX := Lib.hid (And.intro ht (And.intro hc (And.intro htn hcn)))
  have HXB := Lib.hid (And.intro hT hB)
  clear ht hc hT hB h htn hcn h1 hBb hw1 hrv
  by_cases z16 : 16 < tn
  · have z16z : (16 : Int) < (tn : Int) := by omega
    have HF : Hid (rv = 4) := Lib.hid (by rw [HRV.out, if_pos z16])
    clear z16
    go_enter Tryz.func82, Tryz.ntmps82
    go_upto_region 1 with (fail)
    rw [← HB.out.1, ← HB.out.2]
    go_wp2
    rw [HPO.out]
    exact ⟨_, I, by rw [HF.out]; rfl, Mem.le_refl _, H1.out.drop⟩
  · have z16z : ¬ (16 : Int) < (tn : Int) := by omega
    have HR1 : Hid (rv = if fmsE td ≠ 0 then fmsE td else if clE cl ≠ 0 then clE cl else match altsN cl cl.length with | none => 4 | some s => if 128 < (Fm.topss td).length + s then 4 else 0) := Lib.hid (by rw [HRV.out, if_neg z16])
    have HT16 := Lib.hid z16
    have ht16z : (tn : Int) ≤ 16 := by omega
    clear z16 HRV
    go_enter Tryz.func82, Tryz.ntmps82
    go_upto_region 1 with (fail)
    rw [← HB.out.1, ← HB.out.2]
    go_upto_region 4 with (fail)
    clear k0 k1 z16z
    go_wp2_with fail
    go_loopw [4, 5] (fun ov iv wr => ∃ (j m d : Nat) (bO : Option Addr) (vs : List Value) (J : Mem), ov = .slice bO m d ∧ iv = .int .i64 j ∧ j ≤ tn ∧ m ≤ j * 96 ∧ Hid (m = (Fm.topss (td.take j)).length ∧ Mem.le I J ∧ (rF.rows 4).rel J vs (Fm.topss (td.take j)) ∧ fmsE td = fmsE (td.drop j)) ∧ Sat W wr (sep (osl 35 4 bO m d vs) (sep (kn J) (sep (blk B (.cells #[.slice ta tn tc, .slice ca cn cc] 31 (0, 0))) A)))) (fun _ iv _ => tn - (intOf iv).toNat)
    case atStart => exact ⟨0, 0, 0, none, [], I, rfl, rfl, by omega, by omega, Lib.hid ⟨rfl, Mem.le_refl _, rows_nilv _ _ _, rfl⟩, (H1.out.p1).osl_nil 35 4⟩
    case round =>
      obtain ⟨j, m, d, bO, vs, J, rfl, rfl, hj, hm, HV, hS⟩ := hrel
      obtain ⟨k0, k1, -, -⟩ := rt2 hS.p2
      by_cases hlt : j < tn
      · as_aux_lemma =>
        have hltz : (j : Int) < (tn : Int) := by omega
        obtain ⟨f, hf⟩ : ∃ f, td[j]? = some f := ⟨_, List.getElem?_eq_getElem (by have := HX.out.2.2.1; omega)⟩
        obtain ⟨b, o, p, q, x1, n1, c1, x2, n2, c2, rfl, hrf, hcell⟩ := fm_elem HX.out.1 hf
        have HCE := Lib.hid (fun w' (he : Ext J w') => hcell w' (fun i o hb => he i o (HV.out.2.1 i o hb)))
        obtain ⟨j0, j1, j2, j3⟩ := HCE.out wr hS.p1.ext
        have hfs := HXB.out.1 f (List.mem_of_getElem? hf)
        have HVA := Lib.hid (r07valid_spec f p q x1 n1 c1 x2 n2 c2 (rF.mono HV.out.2.1 hrf) hfs hS.p1)
        have HPT := Lib.hid (fun w' A' (h' : Sat W w' (sep (kn J) A')) => r12parts_spec f w' A' J p q x1 n1 c1 x2 n2 c2 (rF.mono HV.out.2.1 hrf) hfs h')
        obtain ⟨fe, hfe⟩ : ∃ z, z = fmE f := ⟨_, rfl⟩
        have hdr := HV.out.2.2.2.trans (fmsE_drop hf)
        rw [← hfe] at HVA hdr
        have HDR := Lib.hid hdr
        have HF0 := Lib.hid (And.intro hf (And.intro hfe (And.intro hlt hm)))
        have hm16 : (m : Int) ≤ 1536 := by omega
        clear hrf hcell hfs hfe hdr hf hlt hj hm hS H1
        go_upto_region 7 with (fail)
        go_wp2_with fail
        refine HVA.out.mono ?_
        rintro e w2 ⟨rfl, h2⟩
        clear j0 j1 j2 j3 k0 k1 HVA
        have H2 := Lib.hid (show Sat W w2 (sep (osl 35 4 bO m d vs) (sep (kn J) (sep (blk B (.cells #[.slice (some ⟨b, o, none⟩) tn tc, .slice ca cn cc] 31 (0, 0))) A))) from h2.p1)
        clear h2
        by_cases he0 : fe = 0
        · subst he0
          obtain ⟨k0, k1, -, -⟩ := rt2 H2.out.p2
          obtain ⟨j0, j1, j2, j3⟩ := HCE.out w2 H2.out.p1.ext
          have HDR2 : Hid (fmsE td = fmsE (td.drop (j + 1))) := Lib.hid (by rw [HDR.out]; simp)
          have hsf := fmE_size HF0.out.2.1.symm
          have htl := Fm.tops_len f
          have HTL : Hid (f.tops.length ≤ 96) := Lib.hid (by omega)
          clear hsf htl HDR
          go_upto_region 10 with (fail)
          go_wp2_with fail
          refine (HPT.out _ _ H2.out.p1).mono ?_
          rintro e w3 ⟨a3, n3, c3, J3, rfl, hn3, hle3, hr3, h3⟩
          obtain ⟨us, hul, hu0, hu1, hur, husrc⟩ := fms_src hr3
          have HU := Lib.hid (And.intro hul (And.intro hu0 (And.intro hu1 (And.intro hur (husrc w3 h3.ext)))))
          have HN := Lib.hid (And.intro hn3 hle3)
          have H3 := Lib.hid (show Sat W w3 (sep (osl 35 4 bO m d vs) (sep (kn J3) (sep (blk B (.cells #[.slice (some ⟨b, o, none⟩) tn tc, .slice ca cn cc] 31 (0, 0))) A))) from h3.p1)
          have hmn : m + n3 ≤ 1632 := by have := HTL.out; omega
          have HMN := Lib.hid hmn
          clear h3 hul hu0 hu1 hur husrc hn3 hle3 hr3 HPT j0 j1 j2 j3 k0 k1 H2 hmn
          go_wp2_with (at_builtin; go_loud (refine wpl_append_osl rfl _ _ 28 rfl 35 4 64 _ Tryz.underlying28 infoFm rfl rfl H3.out rfl us HU.out.1 HU.out.2.1 HU.out.2.2.2.2 HU.out.2.2.1 (by have := HMN.out; omega) (by unfold maxLen; have := HMN.out; omega) ?_))
          intro a4 c4 w4 h4
          have H4 := Lib.hid h4
          clear h4 H3
          go_wp2
          go_roundw
          case rel =>
            have htk := Fm.topss_at td j HF0.out.1
            refine ⟨j + 1, m + n3, c4, a4, vs ++ us, J3, rfl, by go_num, by have := HF0.out.2.2.1; omega, by have := HF0.out.2.2.2; have := HTL.out; have := HN.out.1; rw [Nat.add_mul]; omega, Lib.hid ⟨by rw [htk, List.length_append, ← HV.out.1, ← HN.out.1], Mem.le_trans HV.out.2.1 HN.out.2, by rw [htk]; exact rows_append ((rF.rows 4).mono HN.out.2 HV.out.2.2.1) HU.out.2.2.2.1, HDR2.out⟩, H4.out⟩
          case measure => simp [intOf]; have := HF0.out.2.2.1; omega
        · have he1 : (fe != 0) = true := by simpa using he0
          have he2 : (fe == 0) = false := by simpa using he0
          have HF : Hid (rv = fe) := Lib.hid (by rw [HR1.out, HDR.out]; simp [he0])
          have HF2 := Lib.hid (H2.out.forget_osl.p1.drop)
          clear he0 H2
          go_wp2
          rw [HPO.out]
          exact ⟨_, J, by rw [HF.out]; rfl, HV.out.2.1, HF2.out⟩
      · obtain rfl : j = tn := by omega
        as_aux_lemma =>
        obtain ⟨hv1, hv2, hv3, hv4⟩ := HV.out
        rw [List.drop_of_length_le (by have := HX.out.2.2.1; omega)] at hv4
        rw [List.take_of_length_le (by have := HX.out.2.2.1; omega)] at hv1 hv3
        have HR2 : Hid (rv = if clE cl ≠ 0 then clE cl else match altsN cl cl.length with | none => 4 | some s => if 128 < (Fm.topss td).length + s then 4 else 0) := Lib.hid (by rw [HR1.out, hv4]; rfl)
        have HV2 := Lib.hid (And.intro hv1 (And.intro hv2 hv3))
        have hcJ := (rCl.slice 5).mono hv2 HX.out.2.1
        have HVC := Lib.hid (r11valid_spec ca cn cc cl hcJ HXB.out.2 hS.p1)
        obtain ⟨ce, hce⟩ : ∃ z, z = clE cl := ⟨_, rfl⟩
        rw [← hce] at HVC
        have HCE := Lib.hid hce
        have hmB : (m : Int) ≤ 1536 := by omega
        have HMB := Lib.hid hm
        clear hv1 hv2 hv3 hv4 hcJ hce hS hj hlt hm HR1 H1
        go_upto_region 11 with (fail)
        go_wp2_with fail
        refine HVC.out.mono ?_
        rintro e w2 ⟨rfl, h2⟩
        clear k0 k1 HVC
        have H2 := Lib.hid (show Sat W w2 (sep (osl 35 4 bO m d vs) (sep (kn J) (sep (blk B (.cells #[.slice ta j tc, .slice ca cn cc] 31 (0, 0))) A))) from h2.p1)
        clear h2
        by_cases he0 : ce = 0
        · subst he0
          have HR3 : Hid (rv = match altsN cl cl.length with | none => 4 | some s => if 128 < (Fm.topss td).length + s then 4 else 0) := Lib.hid (by rw [HR2.out, ← HCE.out]; rfl)
          have hc32 := (clE_ok HCE.out.symm).1
          have hcnz : (cn : Int) ≤ 32 := by have := HX.out.2.2.2; omega
          clear hc32 HR2
          go_upto_region 14 with (fail)
          go_wp2_with fail
          go_loopw [4, 8] (fun ov iv wr => ∃ (i m2 d2 s : Nat) (b2 : Option Addr) (vs2 : List Value) (J2 : Mem), ov = .slice b2 m2 d2 ∧ iv = .int .i64 i ∧ i ≤ cn ∧ m2 ≤ 1536 + i * 64 ∧ Hid (altsN cl i = some s ∧ m2 = m + s ∧ Mem.le J J2) ∧ Sat W wr (sep (osl 35 4 b2 m2 d2 vs2) (sep (kn J2) (sep (blk B (.cells #[.slice ta j tc, .slice ca cn cc] 31 (0, 0))) A)))) (fun _ iv _ => cn - (intOf iv).toNat)
          case atStart => exact ⟨0, m, d, 0, bO, vs, J, rfl, rfl, by omega, by have := HMB.out; omega, Lib.hid ⟨rfl, rfl, Mem.le_refl _⟩, H2.out⟩
          case round =>
            obtain ⟨i, m2, d2, s, b2, vs2, J2, rfl, rfl, hi, hm2, HV3, hS2⟩ := hrel
            obtain ⟨k0, k1, -, -⟩ := rt2 hS2.p2
            by_cases hlt2 : i < cn
            · have hlt2z : (i : Int) < (cn : Int) := by omega
              have HAL := Lib.hid (r11alts_ok ca cn cc cl ((rCl.slice 5).mono (Mem.le_trans HV2.out.2.1 HV3.out.2.2) HX.out.2.1) HCE.out.symm HXB.out.2 i (by have := HX.out.2.2.2; omega) hS2.p1)
              obtain ⟨av, hav⟩ : ∃ z, z = altN cl i := ⟨_, rfl⟩
              rw [← hav] at HAL
              have HAV := Lib.hid (And.intro hav (And.intro hlt2 hm2))
              have hm2z : (m2 : Int) ≤ 3584 := by omega
              clear hav hS2 hlt2 hi hm2 H2
              go_upto_region 17 with (fail)
              go_wp2_with fail
              refine HAL.out.mono ?_
              rintro e w3 ⟨a3, n3, c3, J3, rfl, hle3, hres, h3⟩
              clear k0 k1 HAL
              have H3 := Lib.hid (show Sat W w3 (sep (osl 35 4 b2 m2 d2 vs2) (sep (kn J3) (sep (blk B (.cells #[.slice ta j tc, .slice ca cn cc] 31 (0, 0))) A))) from h3.p1)
              have HL3 := Lib.hid hle3
              cases av with
              | none =>
                have HF : Hid (rv = 4) := Lib.hid (by rw [HR3.out, altsN_bad HAV.out.1.symm cl.length (by have := HX.out.2.2.2; have := HAV.out.2.1; omega)])
                have HF2 := Lib.hid (H3.out.forget_osl.p1.drop)
                clear h3 hle3 hres H3
                go_wp2
                rw [HPO.out]
                exact ⟨_, J3, by rw [HF.out]; rfl, Mem.le_trans (Mem.le_trans HV2.out.2.1 HV3.out.2.2) HL3.out, HF2.out⟩
              | some y =>
                obtain ⟨hn3, hr3⟩ := hres y rfl
                obtain ⟨us, hul, hu0, hu1, hur, husrc⟩ := fms_src hr3
                have HU := Lib.hid (And.intro hul (And.intro hu0 (And.intro hu1 (husrc w3 h3.ext))))
                have hy64 := altN_len HAV.out.1.symm
                have HN := Lib.hid (And.intro hn3 (show n3 ≤ 64 by omega))
                have hmn : m2 + n3 ≤ 3700 := by omega
                have HMN := Lib.hid hmn
                clear h3 hle3 hres hul hu0 hu1 hur husrc hn3 hr3 hy64 hmn
                go_wp2_with (at_builtin; go_loud (refine wpl_append_osl rfl _ _ 28 rfl 35 4 64 _ Tryz.underlying28 infoFm rfl rfl H3.out rfl us HU.out.1 HU.out.2.1 HU.out.2.2.2 HU.out.2.2.1 (by have := HMN.out; omega) (by unfold maxLen; have := HMN.out; omega) ?_))
                intro a4 c4 w4 h4
                have H4 := Lib.hid h4
                clear h4 H3
                go_wp2
                go_roundw
                case rel => exact ⟨i + 1, m2 + n3, c4, s + y.length, a4, vs2 ++ us, J3, rfl, by go_num, by have := HAV.out.2.1; omega, by have := HAV.out.2.2; have := HN.out.2; rw [Nat.add_mul]; omega, Lib.hid ⟨altsN_succ HV3.out.1 HAV.out.1.symm, by rw [HV3.out.2.1, HN.out.1]; omega, Mem.le_trans HV3.out.2.2 HL3.out⟩, H4.out⟩
                case measure => simp [intOf]; have := HAV.out.2.1; omega
            · obtain rfl : i = cn := by omega
              have HR4 : Hid (rv = if 128 < m2 then 4 else 0) := Lib.hid (by
                have h1 := HV3.out.1
                rw [HX.out.2.2.2] at h1
                rw [HR3.out, h1]
                show (if 128 < (Fm.topss td).length + s then (4 : Int) else 0) = _
                rw [← HV2.out.1, ← HV3.out.2.1])
              have HF2 := Lib.hid (hS2.forget_osl.p1.drop)
              by_cases z128 : 128 < m2
              · have z128z : (128 : Int) < (m2 : Int) := by omega
                have HF : Hid (rv = 4) := Lib.hid (by rw [HR4.out, if_pos z128])
                clear z128 hS2 H2
                go_wp2
                rw [HPO.out]
                exact ⟨_, J2, by (rw [HF.out]; try rfl), Mem.le_trans HV2.out.2.1 HV3.out.2.2, HF2.out⟩
              · have z128z : ¬ (128 : Int) < (m2 : Int) := by omega
                have HF : Hid (rv = 0) := Lib.hid (by rw [HR4.out, if_neg z128])
                clear z128 hS2 H2
                go_wp2
                rw [HPO.out]
                exact ⟨_, J2, by (rw [HF.out]; try rfl), Mem.le_trans HV2.out.2.1 HV3.out.2.2, HF2.out⟩
        · have he1 : (ce != 0) = true := by simpa using he0
          have he2 : (ce == 0) = false := by simpa using he0
          have HF : Hid (rv = ce) := Lib.hid (by rw [HR2.out, ← HCE.out]; simp [he0])
          have HF2 := Lib.hid (H2.out.forget_osl.p1.drop)
          clear he0 H2
          go_wp2
          rw [HPO.out]
          exact ⟨_, J, by (rw [HF.out]; try rfl), HV2.out.2.1, HF2.out⟩
theorem r12valid_spec {W w : World} {A : Assn} {I : Mem} (ta : Option Addr) (tn tc : Nat) (ca : Option Addr) (cn cc : Nat) (td : List Fm) (cl : List Cl) (ht : (rF.slice 4).rel I [.slice ta tn tc] td) (hc : (rCl.slice 5).rel I [.slice ca cn cc] cl) (hT : ∀ f ∈ td, f.size ≤ FmB) (hB : ∀ x ∈ cl, x.body.size ≤ FmB) (h : Sat W w (sep (kn I) A)) :
    Calls Tryz.prog 56 #[.agg #[.slice ta tn tc, .slice ca cn cc]] w fun e w' => ∃ J, e = .returned (.int .i64 (txE td cl)) ∧ Mem.le I J ∧ Sat W w' (sep (kn J) A) := by
  have h1 := h.alloc (.cells #[.slice ta tn tc, .slice ca cn cc] 31)
  obtain ⟨B, hBb⟩ : ∃ B, B = w.heap.size := ⟨_, rfl⟩
  obtain ⟨w1, hw1⟩ : ∃ z, z = w.alloc (.cells #[.slice ta tn tc, .slice ca cn cc] 31) := ⟨_, rfl⟩
  rw [← hBb, ← hw1] at h1
  have HB := Lib.hid (And.intro hBb hw1)
  obtain ⟨k0, k1, -, -⟩ := rt2 h1
  have HD := Lib.hid (r12disclosed_spec ta tn tc ca cn cc td cl ht hc hT hB h1.p1)
  obtain ⟨rv, hrv⟩ : ∃ z, z = txE td cl := ⟨_, rfl⟩
  rw [← hrv] at HD ⊢
  clear ht hc hT hB h h1 hBb hw1 hrv
  go_enter Tryz.func56, Tryz.ntmps56
  go_upto_region 1 with (fail)
  rw [← HB.out.1, ← HB.out.2]
  go_wp2_with fail
  refine HD.out.mono ?_
  rintro e w2 ⟨v, J, rfl, hle, h2⟩
  have H2 := Lib.hid (And.intro hle h2.p1.drop)
  clear hle h2 HD k0 k1
  go_wp2
  go_ret
  exact ⟨J, rfl, H2.out.1, H2.out.2⟩
end Go.Proofs.YtodipneapffjdaaGreatDoor
