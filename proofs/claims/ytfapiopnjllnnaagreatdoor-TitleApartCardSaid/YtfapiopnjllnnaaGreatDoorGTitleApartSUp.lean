/- TitleApart: its walk. -/
import Derived.Test.YtfapiopnjllnnaaGreatDoorGTitleApart48
import Derived.Test.YtfapiopnjllnnaaGreatDoorGTitleApartSTi
import Derived.Deep.DeepCutAuto
import Derived.Deep.CutBlock
namespace PA
open Go Go.Proofs.YtfapiopnjllnnaaGreatDoor
theorem filt_snoc (file : Int) (xs : List Ac) (i : Nat) (hi : i < xs.length) : (xs.take (i + 1)).filter (ownB file) = (xs.take i).filter (ownB file) ++ (if ownB file xs[i] = true then [xs[i]] else []) := by
  rw [List.take_succ_eq_append_getElem hi, List.filter_append]
  congr 1
  by_cases h : ownB file xs[i] = true <;> simp [h]
theorem ownB_ne {file : Int} {x : Ac} (h : ¬ x.f = file) : ownB file x = false := by unfold ownB; simp [h]
theorem ownB_k {file : Int} {x : Ac} (h : x.f = file) (hk : x.k = 0 ∨ x.k = 16 ∨ x.k = 17) : ownB file x = true := by unfold ownB; simp [h]; rcases hk with h | h | h <;> simp [h]
theorem ownB_nk {file : Int} {x : Ac} (_ : x.f = file) (h0 : ¬ x.k = 0) (h1 : ¬ x.k = 16) (h2 : ¬ x.k = 17) : ownB file x = false := by unfold ownB; simp [h0, h1, h2]
end PA
namespace Go.Proofs.YtfapiopnjllnnaaGreatDoor
open Go.RowKit PA
attribute [local go_sem ↓] sizeAct buildSlice_act buildSlice_i2
attribute [local go_sem] bs_i2
set_option maxRecDepth 100000 in
set_option maxHeartbeats 16000000 in
theorem titleApart_walk (a0 : Option Addr) (len0 cap0 : Nat) (z0 : List Int) (a1 : Option Addr) (len1 cap1 : Nat) (z1 : List Int) (a2 : Int) (w : World) (_hW : WholeOK w)
    (w0 : IsArg w a0 len0 cap0 z0) (w1 : IsArg w a1 len1 cap1 z1) (w2 : (Lit.int .i64 a2).wf = true) :
    Calls Tryz.prog 10 #[.slice a0 len0 cap0, .slice a1 len1 cap1, .int .i64 a2] w fun e w' => e = .returned (.bool true) ∧ Below w.heap.size w w' := by
  obtain ⟨l, rfl, hr0, h64⟩ := argI w0
  obtain ⟨m, rfl, hr1, h65⟩ := argI w1
  have i2 := i64_of_wf w2
  have hsc := scripts_spec (.slice a0 l.length cap0) (.slice a1 m.length cap1) l m ⟨⟨_, _, rfl⟩, hr0, h64⟩ ⟨⟨_, _, rfl⟩, hr1, h65⟩ (Sat.startKn w)
  obtain ⟨x1, hx1⟩ : ∃ x : Nat, aroundI a2 45 = (x : Int) := ⟨(aroundI a2 45).toNat, by have := aroundI_lt a2 45 (by omega); omega⟩
  obtain ⟨x2, hx2⟩ : ∃ x : Nat, aroundI a2 2000 = (x : Int) := ⟨(aroundI a2 2000).toNat, by have := aroundI_lt a2 2000 (by omega); omega⟩
  have hb1 : x1 < 45 := by have := aroundI_lt a2 45 (by omega); omega
  have hb2 : x2 < 2000 := by have := aroundI_lt a2 2000 (by omega); omega
  have HA : Hid (∀ w', Calls Tryz.prog 12 #[.int .i64 a2, .int .i64 45] w' fun e w'' => e = .returned (.int .i64 (x1 : Int)) ∧ w' = w'') := Lib.hid (fun w' => by rw [← hx1]; exact around_spec a2 45 w' i2.1 i2.2 (by omega) (by omega))
  have HB : Hid (∀ w', Calls Tryz.prog 12 #[.int .i64 a2, .int .i64 2000] w' fun e w'' => e = .returned (.int .i64 (x2 : Int)) ∧ w' = w'') := Lib.hid (fun w' => by rw [← hx2]; exact around_spec a2 2000 w' i2.1 i2.2 (by omega) (by omega))
  have hbz1 : (x1 : Int) < 45 := by omega
  have hbz2 : (x2 : Int) < 2000 := by omega
  obtain ⟨va, hva⟩ : ∃ v, v = Value.slice a0 l.length cap0 := ⟨_, rfl⟩
  obtain ⟨vb, hvb⟩ : ∃ v, v = Value.slice a1 m.length cap1 := ⟨_, rfl⟩
  rw [← hva, ← hvb] at hsc ⊢
  have HSC := Lib.hid hsc
  clear w0 w1 w2 hr0 hr1 h64 h65 _hW hsc hx1 hx2 hb1 hb2 hva hvb i2
  go_enter Tryz.func10, Tryz.ntmps10
  go_wp2_with fail
  refine HSC.out.mono ?_
  rintro e w1 ⟨L, v1, v2, v3, y2, y3, J, rfl, hle, hc, h1, h2, h3, g2, g3, l2, l3, hS⟩
  obtain ⟨v, xs, hL⟩ := lists_at hc h1 h2 h3 g2 g3 l2 l3 2 (by omega)
  have c1 := hL.1 w1 hS.ext
  have HFI := Lib.hid (files_ok v xs (by have := hL.2.2.2; omega) hL.2.2.1.fil hL.2.1 hS)
  have HLL := Lib.hid hL
  clear hc h1 h2 h3 g2 g3 l2 l3 hS HSC hle hL
  go_upto_region 2 with (fail)
  clear c1
  go_wp2_with fail
  refine HFI.out.mono ?_
  rintro e w2 ⟨fa, fc, ys, rfl, hys, h2⟩
  obtain ⟨n, hn⟩ : ∃ n, n = ys.length := ⟨_, rfl⟩
  rw [← hn] at h2 ⊢
  obtain ⟨J1, hle1, hc1, h3⟩ := h2.osl_settle.learn
  have HYC : Hid (∀ k z, ys[k]? = some z → ∃ b, fa = some ⟨b, 0, none⟩ ∧ ∀ w', Ext J1 w' → w'.cell? ⟨b, k, none⟩ = some (.int .i64 z)) := Lib.hid (by
    intro k z hz
    have hk := (List.getElem?_eq_some_iff.1 hz).1
    obtain ⟨b, rfl⟩ : ∃ b, fa = some ⟨b, 0, none⟩ := by
      rcases h2.osl_cases with ⟨-, h0, -⟩ | ⟨g, cur, rfl, -⟩
      · omega
      · exact ⟨g, rfl⟩
    refine ⟨b, rfl, fun w' he => ?_⟩
    obtain ⟨b', o, e, hcell⟩ := cells_ext hc1 (fun e => by have := congrArg List.length e; simp at this; rw [this] at hk; simp at hk)
    cases e
    have := hcell w' he k (PA.iv z) (by rw [List.getElem?_map, hz]; rfl)
    rwa [Nat.zero_add] at this)
  have HY := Lib.hid (And.intro hys hn)
  have hn40 : (n : Int) < 40 := by
    have := hys.length_eq
    have := filsP_le xs
    have := HLL.out.2.2.2
    omega
  have H3 := Lib.hid h3
  obtain ⟨nx, hnx⟩ : ∃ z, z = xs.length := ⟨_, rfl⟩
  have hnx40 : (nx : Int) < 40 := by have := HLL.out.2.2.2; omega
  obtain ⟨va, c0, rfl⟩ : ∃ a c, v = .slice a nx c := by obtain ⟨a, m, c, rfl, hm, -⟩ := HLL.out.2.1; exact ⟨a, c, by rw [hnx, hm]⟩
  have HL1 : Hid (ActL J1 (.slice va nx c0) xs ∧ TL xs ∧ nx = xs.length) := Lib.hid ⟨HLL.out.2.1.mono hle1, HLL.out.2.2.1, hnx⟩
  clear hys hn h2 h3 hc1 hle1 HFI HLL hnx
  go_upto_region 3 with (fail)
  go_wp2_with fail
  go_loopw [9] (fun kv wr => ∃ (k : Nat) (J2 : Mem), kv = .int .i64 k ∧ k ≤ n ∧ Mem.le J1 J2 ∧ Sat w wr (sep (kn J2) emp)) (fun kv _ => n - (intOf kv).toNat)
  case atStart => exact ⟨0, J1, rfl, Nat.zero_le _, Mem.le_refl _, H3.out⟩
  case round =>
    obtain ⟨k, J2, rfl, hkn, hle2, hS2⟩ := hrel
    by_cases hkl : k < n
    · have hkz : (k : Int) < (n : Int) := by omega
      have hky : k < ys.length := by have := HY.out.2; omega
      obtain ⟨fz, hfz⟩ : ∃ z, ys[k]? = some z := ⟨_, List.getElem?_eq_getElem hky⟩
      obtain ⟨b, rfl, hcf⟩ := HYC.out k fz hfz
      have HCF : Hid (∀ w', Ext J2 w' → w'.cell? ⟨b, k, none⟩ = some (.int .i64 fz)) := Lib.hid (fun w' he => hcf w' (fun i o hb => he i o (hle2 i o hb)))
      have HK := Lib.hid (And.intro hkn (And.intro hle2 hkl))
      have HS2 := Lib.hid hS2
      clear hfz hky hkn hle2 hkl hS2 hcf H3
      go_upto_block 2 with (fail)
      go_cut [10] from 37 to 219 (fun ov wx => ∃ (oa : Option Addr) (on oc : Nat), ov = .slice oa on oc ∧ Hid (on = (xs.filter (ownB fz)).length) ∧ Sat w wx (sep (osl 57 19 oa on oc (acs (xs.filter (ownB fz)))) (sep (kn J2) emp)))
      case first =>
        as_aux_lemma =>
        /-DEV1-/
        go_wp2_with fail
        go_loopw [10, 11] (fun ov iv wr => ∃ (i on oc : Nat) (oa : Option Addr) (us : List Value), ov = .slice oa on oc ∧ iv = .int .i64 i ∧ i ≤ nx ∧ on ≤ i ∧ Hid (on = ((xs.take i).filter (ownB fz)).length ∧ us = acs ((xs.take i).filter (ownB fz))) ∧ Sat w wr (sep (osl 57 19 oa on oc us) (sep (kn J2) emp))) (fun _ iv _ => nx - (intOf iv).toNat)
        case atStart => exact ⟨0, 0, 0, none, [], rfl, rfl, by omega, by omega, Lib.hid ⟨by simp, by simp [acs]⟩, HS2.out.osl_nil 57 19⟩
        case round =>
          obtain ⟨i, on, oc, oa, us, rfl, rfl, hi, hoi, HU, hS⟩ := hrel
          by_cases hlt : i < nx
          · have hltz : (i : Int) < (nx : Int) := by omega
            have hix : i < xs.length := by have := HL1.out.2.2; omega
            obtain ⟨a', n', c', e', hn', -, hc'⟩ := HL1.out.1
            simp only [Value.slice.injEq] at e'
            obtain ⟨rfl, -, rfl⟩ := e'
            obtain ⟨bb, o, rfl, hld⟩ := settled_act hc' i hix
            have hsucc := filt_snoc fz xs i hix
            obtain ⟨x, hx⟩ : ∃ x, x = xs[i] := ⟨_, rfl⟩
            rw [← hx] at hld hsucc
            have hle12 := HK.out.2.1
            have ext12 : ∀ w', Ext J2 w' → Ext J1 w' := fun w' he i o hb => he i o (hle12 i o hb)
            have c0' : wr.cell? ⟨bb, o + i * 19, none⟩ = some (.int .i64 x.k) := (hld wr (ext12 wr hS.p1.ext)).1 0 _ rfl
            have c3' : wr.drew.cell? ⟨bb, o + i * 19 + 3, none⟩ = some (.int .i64 x.f) := (hld wr.drew (ext12 _ hS.drew.p1.ext)).1 3 _ rfl
            have cf := HCF.out wr.drew hS.drew.p1.ext
            have HLD := Lib.hid (fun w' (he : Ext J2 w') => (hld w' (ext12 w' he)).2)
            have HSU := Lib.hid hsucc
            have HSd := Lib.hid hS.drew
            obtain ⟨xk, hxk⟩ : ∃ z, z = x.k := ⟨_, rfl⟩
            obtain ⟨xf, hxf⟩ : ∃ z, z = x.f := ⟨_, rfl⟩
            rw [← hxk] at c0'
            rw [← hxf] at c3'
            have HXK := Lib.hid (And.intro hxk hxf)
            have hbo : (on : Int) ≤ 40 := by omega
            have HBO : Hid (i < nx ∧ on ≤ i ∧ nx < 40) := Lib.hid ⟨hlt, hoi, by omega⟩
            clear hld hx hsucc hS hxk hxf hc' hn' hix hlt hoi hi HS2
            by_cases hf : xf = fz
            · have hfb : (xf == fz) = true := by simpa using hf
              by_cases hk : xk = 0 ∨ xk = 16 ∨ xk = 17
              · have hown : ownB fz x = true := ownB_k (by rw [← HXK.out.2]; exact hf) (by rw [← HXK.out.1]; exact hk)
                have HOWN := Lib.hid hown
                have l1 := HLD.out wr.drew HSd.out.p1.ext
                have hbs : ∀ w0, (bsAct #[(0, .agg x.cells.toArray)]).run Tryz.prog w0 = .ok (.slice (some ⟨w0.heap.size, 0, none⟩) 1 1) (w0.alloc (.cells x.cells.toArray 57)) := fun w0 => bs_act x w0
                have h11 : Sat w (wr.drew.alloc (.cells x.cells.toArray 57)) (sep (osl 57 19 oa on oc us) (sep (kn J2) emp)) := HSd.out.alloc0 _
                have HSRC := Lib.hid (new_src wr.drew x.cells 57)
                have H11 := Lib.hid h11
                have HLL1 := Lib.hid l1
                clear h11 l1 hown
                subst hf
                rcases hk with rfl | rfl | rfl
                all_goals
                  go_upto_region 10 with (fail)
                  go_upto_region 11 with (fail)
                  clear c0'
                  refine wp_region_canon rfl (fun _ => True) [(0, .p), (1, .p), (2, .p), (3, .p), (4, .t), (5, .p), (6, .p), (7, .p), (8, .t), (9, .p), (10, .p), (11, .p), (12, .p), (13, .p), (14, .p), (15, .p), (16, .p), (17, .p), (18, .p), (19, .p), (20, .p), (21, .p)] (by kernel_rfl) ?_
                  have hS0 : True := trivial
                  (repeat ((first | (refine C_p (v := ?_) rfl rfl (fun w' => ?_) ?_; rotate_left; (go_simp; with_reducible rfl)) | (refine C_s (v := ?_) rfl rfl hS0 (fun w' hS => ?_) ?_; rotate_left; ((try dsimp only at hS); go_simp; with_reducible rfl)) | (refine C_t (v := ?_) rfl rfl ?_ ?_; rotate_left; (go_simp; with_reducible rfl)) | (refine C_po rfl rfl ?_) | (refine C_so rfl rfl hS0 ?_) | (refine C_to rfl rfl ?_)); simp only [Act.put, List.setIfInBounds_toArray, List.set_cons_zero, List.set_cons_succ]))
                  refine C_nil ?_
                  clear c3' cf
                  have l1 := HLL1.out
                  go_wp2_with (at_builtin; refine wpl_append_osl rfl _ _ 29 rfl 57 19 248 _ Tryz.underlying29 infoAct rfl rfl H11.out rfl x.cells rfl (by simp) (by intro b' hb; cases hb; exact HSRC.out) x.one (by omega) (by unfold maxLen; omega) ?_)
                  intro a6 c6 w10 h12
                  have H12 := Lib.hid h12
                  clear h12 l1 hbs H11 HSRC HLL1
                  go_wp2
                  go_roundw
                  case rel =>
                    refine ⟨i + 1, on + 1, c6, a6, us ++ x.cells, rfl, by go_num, by have := HBO.out; omega, by have := HBO.out; omega, Lib.hid ?_, H12.out⟩
                    rw [HSU.out, if_pos HOWN.out, List.length_append, ← HU.out.1, HU.out.2, acs_append]
                    exact ⟨rfl, by simp [acs]⟩
                  case measure => simp [intOf]; have := HBO.out; omega
              · have hk0 : (xk == 0) = false := by simp; omega
                have hk1 : (xk == 16) = false := by simp; omega
                have hk2 : (xk == 17) = false := by simp; omega
                have hown : ownB fz x = false := ownB_nk (by rw [← HXK.out.2]; exact hf) (by rw [← HXK.out.1]; omega) (by rw [← HXK.out.1]; omega) (by rw [← HXK.out.1]; omega)
                have HOWN := Lib.hid hown
                clear hown hk
                subst hf
                go_upto_region 10 with (fail)
                go_upto_region 11 with (fail)
                clear c0'
                refine wp_region_canon rfl (fun _ => True) [(0, .p), (1, .p), (2, .p), (3, .p), (4, .t), (5, .p), (6, .p), (7, .p), (8, .t), (9, .p), (10, .p), (11, .p), (12, .p), (13, .p), (14, .p), (15, .p), (16, .p), (17, .p), (18, .p), (19, .p), (20, .p), (21, .p)] (by kernel_rfl) ?_
                have hS0 : True := trivial
                (repeat ((first | (refine C_p (v := ?_) rfl rfl (fun w' => ?_) ?_; rotate_left; (go_simp; with_reducible rfl)) | (refine C_s (v := ?_) rfl rfl hS0 (fun w' hS => ?_) ?_; rotate_left; ((try dsimp only at hS); go_simp; with_reducible rfl)) | (refine C_t (v := ?_) rfl rfl ?_ ?_; rotate_left; (go_simp; with_reducible rfl)) | (refine C_po rfl rfl ?_) | (refine C_so rfl rfl hS0 ?_) | (refine C_to rfl rfl ?_)); simp only [Act.put, List.setIfInBounds_toArray, List.set_cons_zero, List.set_cons_succ]))
                refine C_nil ?_
                clear c3' cf hk0 hk1 hk2
                go_wp2
                go_roundw
                case rel =>
                  refine ⟨i + 1, on, oc, oa, us, rfl, by go_num, by have := HBO.out; omega, by have := HBO.out; omega, Lib.hid ?_, HSd.out⟩
                  rw [HSU.out, if_neg (by rw [HOWN.out]; decide), List.append_nil]
                  exact HU.out
                case measure => simp [intOf]; have := HBO.out; omega
            · have hfb : (xf == fz) = false := by simpa using hf
              have hown : ownB fz x = false := ownB_ne (by rw [← HXK.out.2]; exact hf)
              have HOWN := Lib.hid hown
              clear hown hf
              go_upto_region 10 with (fail)
              go_upto_region 11 with (fail)
              clear c0'
              refine wp_region_canon rfl (fun _ => True) [(0, .p), (1, .p), (2, .p), (3, .p), (4, .t), (5, .p), (6, .p), (7, .p), (8, .t), (9, .p), (10, .p), (11, .p), (12, .p), (13, .p), (14, .p), (15, .p), (16, .p), (17, .p), (18, .p), (19, .p), (20, .p), (21, .p)] (by kernel_rfl) ?_
              have hS0 : True := trivial
              (repeat ((first | (refine C_p (v := ?_) rfl rfl (fun w' => ?_) ?_; rotate_left; (go_simp; with_reducible rfl)) | (refine C_s (v := ?_) rfl rfl hS0 (fun w' hS => ?_) ?_; rotate_left; ((try dsimp only at hS); go_simp; with_reducible rfl)) | (refine C_t (v := ?_) rfl rfl ?_ ?_; rotate_left; (go_simp; with_reducible rfl)) | (refine C_po rfl rfl ?_) | (refine C_so rfl rfl hS0 ?_) | (refine C_to rfl rfl ?_)); simp only [Act.put, List.setIfInBounds_toArray, List.set_cons_zero, List.set_cons_succ]))
              refine C_nil ?_
              clear c3' cf hfb
              go_wp2
              go_roundw
              case rel =>
                refine ⟨i + 1, on, oc, oa, us, rfl, by go_num, by have := HBO.out; omega, by have := HBO.out; omega, Lib.hid ?_, HSd.out⟩
                rw [HSU.out, if_neg (by rw [HOWN.out]; decide), List.append_nil]
                exact HU.out
              case measure => simp [intOf]; have := HBO.out; omega
          · obtain rfl : i = nx := by omega
            have HS3 := Lib.hid hS
            clear hS HS2
            go_wp2
            go_meet
            case rel =>
              have hu := HU.out
              rw [List.take_of_length_le (by have := HL1.out.2.2; omega)] at hu
              refine ⟨oa, on, oc, rfl, Lib.hid hu.1, ?_⟩
              have := HS3.out
              rw [hu.2] at this
              exact this
        /-VED1-/
      case rest =>
        as_aux_lemma =>
        /-DEV2-/
        obtain ⟨oa, on, oc, rfl, HON0, h4⟩ := hcut
        obtain ⟨J3, hle3, hv3, h5⟩ := acts_settle HON0.out h4
        obtain ⟨own0, hown0⟩ : ∃ z, z = xs.filter (ownB fz) := ⟨_, rfl⟩
        rw [← hown0] at hv3
        have HT : Hid (xs.Pairwise KeyNe ∧ own0 = xs.filter (ownB fz)) := Lib.hid ⟨HL1.out.2.1.key, hown0⟩
        have HO1 := Lib.hid (HL1.out.2.1.ok (by have := HL1.out.2.2; omega))
        have HO2 : Hid (TOk own0) := Lib.hid (by
          rw [hown0]
          refine (HL1.out.2.1.own fz).ok ?_
          have := List.length_filter_le (ownB fz) xs
          have := HL1.out.2.2
          omega)
        obtain ⟨u1, hu1⟩ : ∃ u, u = Value.slice va nx c0 := ⟨_, rfl⟩
        obtain ⟨u2, hu2⟩ : ∃ u, u = Value.slice oa on oc := ⟨_, rfl⟩
        have HV1 : Hid (ActL J3 u1 xs) := Lib.hid (by rw [hu1]; exact HL1.out.1.mono (Mem.le_trans HK.out.2.1 hle3))
        have HV2 : Hid (ActL J3 u2 own0) := Lib.hid (by rw [hu2]; exact hv3)
        have HCF3 : Hid (∀ w', Ext J3 w' → w'.cell? ⟨b, k, none⟩ = some (.int .i64 fz)) := Lib.hid (fun w' he => HCF.out w' (fun i o hb => he i o (hle3 i o hb)))
        have HL3 := Lib.hid (Mem.le_trans HK.out.2.1 hle3)
        rw [← hu1, ← hu2]
        have HU1 := Lib.hid hu1
        have H5 := Lib.hid h5
        clear h4 hle3 hv3 h5 hown0 hu1 hu2 HCF HON0
        obtain ⟨r2, hr2⟩ : ∃ z, z = k % 2 := ⟨_, rfl⟩
        have e1 : Int.tmod (k : Int) 2 = (r2 : Int) := by rw [hr2]; rfl
        have b4 : (r2 : Int) < 2 := by omega
        have b1 : r2 = 0 ∨ r2 = 1 := by omega
        clear hr2
        go_wp2_with fail
        refine (HA.out _).mono ?_
        rintro e w12 ⟨rfl, rfl⟩
        go_wp2_with fail
        refine (HB.out _).mono ?_
        rintro e w12 ⟨rfl, rfl⟩
        have h12 := H5.out.alloc (.cells #[.int .i64 (95 + (x1 : Int)), .int .i64 (36000 + (x2 : Int))] 3)
        obtain ⟨dz, hcd⟩ : ∃ dz : Int, (wc.alloc (.cells #[.int .i64 (95 + (x1 : Int)), .int .i64 (36000 + (x2 : Int))] 3)).cell? ⟨wc.heap.size, r2, none⟩ = some (.int .i64 dz) := by
          rcases b1 with rfl | rfl
          · exact ⟨_, h12.cell 0⟩
          · exact ⟨_, h12.cell 1⟩
        have HS0 := Lib.hid h12.forget
        clear h12 H5 b1
        go_upto_region 14 with (fail)
        obtain ⟨w12, hw12⟩ : ∃ z, z = wc.alloc (.cells #[.int .i64 (95 + (x1 : Int)), .int .i64 (36000 + (x2 : Int))] 3) := ⟨_, rfl⟩
        rw [← hw12] at HS0 ⊢
        have HS := HS0
        clear hcd hw12 HS0
        have cf := HCF3.out w12 HS.out.ext
        have HC1 := Lib.hid (owners_any fz dz u1 xs HO1.out HV1.out HS.out)
        obtain ⟨er, her⟩ : ∃ er, er = titleErr fz dz (sortK xs) := ⟨_, rfl⟩
        rw [← her] at HC1
        have HER := Lib.hid her
        clear her
        go_wp2_with fail
        refine HC1.out.mono ?_
        rintro e w13 ⟨own, qa, qc, J4, rfl, hown, hle4, h13⟩
        clear cf
        obtain ⟨om, hom⟩ : ∃ z, z = own.length := ⟨_, rfl⟩
        rw [← hom] at h13 ⊢
        have hom2 : om ≤ 20000 := by rw [hom]; exact ownR_len HO1.out hown
        have H13 := Lib.hid h13.p1
        have HOWN := Lib.hid hown
        have HON := Lib.hid (And.intro hom (And.intro hom2 hle4))
        clear h13 hown hle4 hom hom2 HC1 HS e1 b4
        have HC2 := owners_any fz dz u2 own0 HO2.out (HV2.out.mono HON.out.2.2) H13.out
        rw [show titleErr fz dz (sortK own0) = er by rw [HT.out.2, terr_own HT.out.1, HER.out]] at HC2
        have HC := Lib.hid HC2
        have cf := HCF3.out w13 (fun i o hb => H13.out.ext i o (HON.out.2.2 i o hb))
        clear HC2
        go_upto_region 15 with (fail)
        go_wp2_with fail
        refine HC.out.mono ?_
        rintro e w14 ⟨own', ob, od, J5, rfl, hown2, hle5, h14⟩
        clear cf
        have heq : own = own' := ownR_own HT.out.1 HOWN.out (by rw [← HT.out.2]; exact hown2)
        subst heq
        rw [← HON.out.1] at h14 ⊢
        have HL5 := Lib.hid (Mem.le_trans HON.out.2.2 hle5)
        have H14 := Lib.hid h14.p1
        clear h14 hown2 hle5 HC H13 HOWN
        obtain ⟨li, hli⟩ : ∃ z, z = licR fz dz xs := ⟨_, rfl⟩
        obtain ⟨ln, hln⟩ : ∃ z, z = li.length := ⟨_, rfl⟩
        have hln2 : ln ≤ 20000 := by rw [hln, hli]; have := licR_len fz dz xs; have := HO1.out.len; omega
        have HC3 := licences_any fz dz u1 xs HO1.out (HV1.out.mono HL5.out) H14.out
        rw [← hli, ← hln, ← HER.out] at HC3
        have HC := Lib.hid HC3
        have HLI := Lib.hid (And.intro hli (And.intro hln hln2))
        have cf := HCF3.out w14 (fun i o hb => H14.out.ext i o (HL5.out i o hb))
        clear HC3 hli hln hln2
        go_upto_region 16 with (fail)
        go_wp2_with fail
        refine HC.out.mono ?_
        rintro e w15 ⟨la, lc, J6, rfl, hle6, h15⟩
        clear cf
        have HL6 := Lib.hid (Mem.le_trans HL5.out hle6)
        have H15 := Lib.hid h15.p1
        clear h15 hle6 HC H14
        have HC4 := licences_any fz dz u2 own0 HO2.out (HV2.out.mono HL6.out) H15.out
        rw [show titleErr fz dz (sortK own0) = er by rw [HT.out.2, terr_own HT.out.1, HER.out], show licR fz dz own0 = li by rw [HT.out.2, licR_own HT.out.1, HLI.out.1], ← HLI.out.2.1] at HC4
        have HC := Lib.hid HC4
        have cf := HCF3.out w15 (fun i o hb => H15.out.ext i o (HL6.out i o hb))
        clear HC4
        go_upto_region 17 with (fail)
        go_wp2_with fail
        refine HC.out.mono ?_
        rintro e w16 ⟨lb, ld, J7, rfl, hle7, h16⟩
        clear cf
        have HL7 := Lib.hid (Mem.le_trans HL6.out hle7)
        have H16 := Lib.hid h16.p1
        clear h16 hle7 HC H15
        obtain ⟨fl, hfl⟩ : ∃ z, z = failR fz xs := ⟨_, rfl⟩
        obtain ⟨fm, hfm⟩ : ∃ z, z = failR fz own0 := ⟨_, rfl⟩
        obtain ⟨fn, hfn⟩ : ∃ z, z = fl.length := ⟨_, rfl⟩
        have hfn2 : fm.length = fn := by rw [hfm, hfn, hfl, HT.out.2, failR_own HT.out.1]
        obtain ⟨fe, hfe⟩ : ∃ z, z = titleErr fz 131072 (sortK xs) := ⟨_, rfl⟩
        have HC5 := failed_any fz u1 xs HO1.out (HV1.out.mono HL7.out) H16.out
        rw [← hfl, ← hfe, ← hfn] at HC5
        have HC := Lib.hid HC5
        have HFL := Lib.hid (And.intro hfm (And.intro hfn2 hfe))
        have cf := HCF3.out w16 (fun i o hb => H16.out.ext i o (HL7.out i o hb))
        clear HC5 hfl hfm hfn hfn2 hfe
        go_upto_region 18 with (fail)
        go_wp2_with fail
        refine HC.out.mono ?_
        rintro e w17 ⟨fa, fc, J8, rfl, hle8, h17⟩
        clear cf
        have HL8 := Lib.hid (Mem.le_trans HL7.out hle8)
        have H17 := Lib.hid h17.p1
        clear h17 hle8 HC H16
        have HC6 := failed_any fz u2 own0 HO2.out (HV2.out.mono HL8.out) H17.out
        rw [show titleErr fz 131072 (sortK own0) = fe by rw [HT.out.2, terr_own HT.out.1, HFL.out.2.2], ← HFL.out.1, HFL.out.2.1] at HC6
        have HC := Lib.hid HC6
        have cf := HCF3.out w17 (fun i o hb => H17.out.ext i o (HL8.out i o hb))
        clear HC6
        go_upto_region 19 with (fail)
        go_wp2_with fail
        refine HC.out.mono ?_
        rintro e w18 ⟨fb, fd, J9, rfl, hle9, h18⟩
        clear cf
        have HL9 := Lib.hid (Mem.le_trans HL8.out hle9)
        have H18 := Lib.hid h18.p1
        clear h18 hle9 HC H17
        obtain ⟨cr, hcr⟩ : ∃ z, z = chnR fz dz 2 xs := ⟨_, rfl⟩
        obtain ⟨cs, hcs⟩ : ∃ z, z = chnR fz dz 2 own0 := ⟨_, rfl⟩
        obtain ⟨cn, hcn⟩ : ∃ z, z = cr.length := ⟨_, rfl⟩
        have hcn2 : cs.length = cn := by rw [hcs, hcn, hcr, HT.out.2, (chn_own HT.out.1 dz 2).1]
        obtain ⟨ce, hce⟩ : ∃ z, z = chnE fz dz 2 xs := ⟨_, rfl⟩
        have HC7 := chain_any fz dz 2 u1 xs HO1.out (HV1.out.mono HL9.out) H18.out
        rw [← hcr, ← hce, ← hcn] at HC7
        have HC := Lib.hid HC7
        have HCR := Lib.hid (And.intro hcs (And.intro hcn2 hce))
        have cf := HCF3.out w18 (fun i o hb => H18.out.ext i o (HL9.out i o hb))
        clear HC7 hcr hce hcs hcn hcn2
        go_upto_region 20 with (fail)
        go_wp2_with fail
        refine HC.out.mono ?_
        rintro e w19 ⟨ca, cc, J10, rfl, hle10, h19⟩
        clear cf
        have HL10 := Lib.hid (Mem.le_trans HL9.out hle10)
        have H19 := Lib.hid h19.p1
        clear h19 hle10 HC H18
        have HC8 := chain_any fz dz 2 u2 own0 HO2.out (HV2.out.mono HL10.out) H19.out
        rw [show chnE fz dz 2 own0 = ce by rw [HT.out.2, (chn_own HT.out.1 dz 2).2, HCR.out.2.2], ← HCR.out.1, HCR.out.2.1] at HC8
        have HC := Lib.hid HC8
        have cf := HCF3.out w19 (fun i o hb => H19.out.ext i o (HL10.out i o hb))
        clear HC8
        go_upto_region 21 with (fail)
        go_wp2_with fail
        refine HC.out.mono ?_
        rintro e w20 ⟨cb, cd, J11, rfl, hle11, h20⟩
        clear cf
        have HL11 := Lib.hid (Mem.le_trans HL10.out hle11)
        have HQ1 := Lib.hid (plain_spec qa om qc own HON.out.1.symm HON.out.2.1 h20.p8)
        clear h20 hle11 HC H19
        go_upto_region 22 with (fail)
        go_wp2_with fail
        refine HQ1.out.mono ?_
        rintro e w21 ⟨pa, pc, rfl, h21⟩
        have HQ2 := Lib.hid (plain_spec ob om od own HON.out.1.symm HON.out.2.1 h21.p1.forget_osl.p8)
        clear h21 HQ1
        go_wp2_with fail
        refine HQ2.out.mono ?_
        rintro e w22 ⟨pb, pd, rfl, h22⟩
        have HQ3 := sameOwners_spec pa pb om om pc pd own own HON.out.1.symm HON.out.1.symm HON.out.2.1 HON.out.2.1 h22.p1.forget_osl.p1
        rw [decide_eq_true (rfl : own = own)] at HQ3
        have HQ := Lib.hid HQ3
        clear h22 HQ2 HQ3
        go_wp2_with fail
        refine HQ.out.mono ?_
        rintro e w23 ⟨rfl, h23⟩
        have HQ4 := Lib.hid (held_spec la ln lc li HLI.out.2.1.symm HLI.out.2.2 h23.forget_osl.forget_osl.p6)
        clear h23 HQ
        go_wp2_with fail
        refine HQ4.out.mono ?_
        rintro e w24 ⟨ha, hc, rfl, h24⟩
        have HQ5 := Lib.hid (held_spec lb ln ld li HLI.out.2.1.symm HLI.out.2.2 h24.p1.forget_osl.p6)
        clear h24 HQ4
        go_wp2_with fail
        refine HQ5.out.mono ?_
        rintro e w25 ⟨hb, hd, rfl, h25⟩
        have HQ6 := sameHeld_spec ha hb ln ln hc hd li li HLI.out.2.1.symm HLI.out.2.1.symm HLI.out.2.2 HLI.out.2.2 h25.p1.forget_osl.p1
        rw [decide_eq_true (rfl : li = li)] at HQ6
        have HQ := Lib.hid HQ6
        clear h25 HQ5 HQ6
        go_wp2_with fail
        refine HQ.out.mono ?_
        rintro e w26 ⟨rfl, h26⟩
        have H26 := Lib.hid (h26.forget_osl.forget_osl)
        clear h26 HQ
        go_wp2
        rw [HU1.out]
        go_roundw
        case rel => exact ⟨k + 1, J11, by go_num, by have := HK.out; omega, Mem.le_trans HL3.out HL11.out, by have h9 := (H26.out.forget_osl).p1.forget_osl.p1.forget_osl.p1.forget_osl; exact h9⟩
        case measure => simp [intOf]; have := HK.out; omega
        /-VED2-/
    · have hkz : ¬ (k : Int) < (n : Int) := by omega
      have HLV := Lib.hid (lives25_spec hS2)
      clear hkl hkn hS2 hle2 H3
      go_wp2_with fail
      refine HLV.out.mono ?_
      rintro e w13 ⟨rfl, h13⟩
      have HBL := Lib.hid h13.below
      clear h13 HLV
      go_wp2
      go_ret
      exact ⟨rfl, HBL.out⟩
end Go.Proofs.YtfapiopnjllnnaaGreatDoor
