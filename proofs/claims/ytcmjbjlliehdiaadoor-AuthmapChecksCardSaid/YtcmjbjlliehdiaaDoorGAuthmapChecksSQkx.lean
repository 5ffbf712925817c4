/- authmap.wrong, the closure of Check, Check. -/
import Derived.Test.YtcmjbjlliehdiaaDoorGAuthmapChecksSQkw
namespace Go.Proofs.YtcmjbjlliehdiaaDoor
open Go.RowKit PA
attribute [local go_sem] Oper.semAt_some
def prevK (ps : List (Int × List UInt8)) (i : Nat) : Option Int := if i = 0 then none else (ps[i - 1]?).map (·.1)
theorem wrongP_step {a b : Int} {ps : List (Int × List UInt8)} {i : Nat} (hi : i < ps.length) : wrongP a b (ps.drop i) (prevK ps i) =
    (decide (ps[i].1 < a) || decide (b < ps[i].1) || (match prevK ps i with | none => false | some k => decide (ps[i].1 ≤ k)) || decide (65536 < ps[i].2.length) || wrongP a b (ps.drop (i + 1)) (prevK ps (i + 1))) := by
  rw [List.drop_eq_getElem_cons hi]
  have : prevK ps (i + 1) = some ps[i].1 := by
    unfold prevK
    rw [if_neg (by omega), Nat.add_sub_cancel, List.getElem?_eq_getElem hi]
    rfl
  rw [this]
  rfl
set_option maxRecDepth 100000 in
set_option maxHeartbeats 16000000 in
theorem awrong_spec {W w : World} {A : Assn} {I : Mem} (a b : Int) (pa : Option Addr) (pn pc : Nat) (ps : List (Int × List UInt8)) (h : Sat W w (sep (kn I) A)) (hv : (rPairQ.slice 2).rel I [.slice pa pn pc] ps) (hps : ps.length ≤ 1000000) :
    Calls Tryd.prog 74 #[.int .i64 a, .int .i64 b, .slice pa pn pc] w fun e w' => e = .returned (.bool (wrongP a b ps none)) ∧ Sat W w' (sep (kn I) A) := by
  have hpn : pn = ps.length := by
    obtain ⟨a', c', e, -⟩ := slice_formQ hv
    simp only [Value.slice.injEq] at e
    exact e.2.1
  obtain ⟨r, hr⟩ : ∃ r, r = wrongP a b ps none := ⟨_, rfl⟩
  rw [← hr]
  have hpn6 : pn ≤ 1000000 := by omega
  have HP := Lib.hid (And.intro hpn (And.intro hv hr))
  have H := Lib.hid h
  clear h hv hps hpn hr
  go_enter Tryd.func74, Tryd.ntmps74
  go_wp2_with fail
  go_loopw [11] (fun iv wr => ∃ i : Nat, i ≤ pn ∧ iv = .int .i64 (i : Nat) ∧ Hid (r = wrongP a b (ps.drop i) (prevK ps i)) ∧ Sat W wr (sep (kn I) A)) (fun iv _ => pn - (intOf iv).toNat)
  case atStart => exact ⟨0, Nat.zero_le _, rfl, Lib.hid (by rw [HP.out.2.2]; rfl), H.out⟩
  case round =>
    clear H
    obtain ⟨i, hi, rfl, HRR, hS⟩ := hrel
    by_cases hlt : i < pn
    · have g0 : (i : Int) < (pn : Int) := by omega
      have hip : i < ps.length := by rw [← HP.out.1]; exact hlt
      have hst := wrongP_step (a := a) (b := b) hip
      rw [← HRR.out] at hst
      obtain ⟨pb, po, va, vc, rfl, hcx, -⟩ := pair_ext HP.out.2.1 i hip
      have hprev : ∀ j, j < i → ∃ k, (ps[j]?).map (·.1) = some k ∧ ∀ w', Ext I w' → w'.cell? ⟨pb, po + j * 2, none⟩ = some (.int .i64 k) := by
        intro j hj
        have hjp : j < ps.length := by omega
        obtain ⟨pb2, po2, va2, vc2, e2, hcx2, -⟩ := pair_ext HP.out.2.1 j hjp
        simp only [Option.some.injEq, Addr.mk.injEq, and_true] at e2
        obtain ⟨rfl, rfl⟩ := e2
        exact ⟨ps[j].1, by rw [List.getElem?_eq_getElem hjp]; rfl, fun w' he => (hcx2 w' he).1⟩
      obtain ⟨x1, hx1⟩ : ∃ z, z = ps[i] := ⟨_, rfl⟩
      rw [← hx1] at hcx hst
      obtain ⟨k1, hk1⟩ : ∃ z, z = x1.1 := ⟨_, rfl⟩
      obtain ⟨vl, hvl⟩ : ∃ z, z = x1.2.length := ⟨_, rfl⟩
      rw [← hk1, ← hvl] at hcx hst
      obtain ⟨f0, f1⟩ := hcx wr hS.ext
      obtain ⟨t8, ht8⟩ : ∃ z, z = wr.heap.size := ⟨_, rfl⟩
      obtain ⟨w2, hw2⟩ : ∃ z, z = wr.alloc (.cells #[.int .i64 k1, .slice va vl vc] 84) := ⟨_, rfl⟩
      have h2 := hS.alloc (.cells #[.int .i64 k1, .slice va vl vc] 84)
      rw [← ht8, ← hw2] at h2
      have hd := h2.drew
      obtain ⟨wd, hwd⟩ : ∃ z, z = w2.drew := ⟨_, rfl⟩
      rw [← hwd] at hd
      have d0 : wd.cell? ⟨t8, 0, none⟩ = some (.int .i64 k1) := hd.cell 0
      have d1 : wd.cell? ⟨t8, 1, none⟩ = some (.slice va vl vc) := hd.cell 1
      have hE := hd.p1.ext
      have HD := Lib.hid hd.drop
      have HW2 := Lib.hid (And.intro ht8 (And.intro hw2 hwd))
      have HST := Lib.hid hst
      have HPV := Lib.hid hprev
      have HE := Lib.hid hE
      clear hS hcx hx1 hk1 hvl ht8 hw2 hwd h2 hd hst hprev hip HRR hE
      go_upto_region 4 with (fail)
      rw [← HW2.out.1, ← HW2.out.2.1]
      clear f0 f1
      by_cases c1 : k1 < a
      · have c1I : decide (k1 < a) = true := decide_eq_true c1
        have hr : r = true := by rw [HST.out, c1I]; rfl
        have HRT := Lib.hid hr
        clear hr
        refine wp_region_canon rfl (fun _ => True) [(0, .p), (1, .t), (2, .p), (3, .p), (4, .p), (5, .p), (6, .t), (7, .p), (8, .p), (9, .p), (10, .p), (11, .p), (12, .p), (13, .p), (14, .p), (15, .t), (16, .p), (17, .p), (18, .p), (19, .p), (20, .p), (21, .t), (22, .p), (23, .p), (24, .p), (25, .p), (26, .p), (27, .t), (28, .p), (29, .p), (30, .p)] (by kernel_rfl) ?_
        rw [← HW2.out.2.2]
        have hS0 : True := trivial
        (repeat ((first | (refine C_p (v := ?_) rfl rfl (fun w' => ?_) ?_; rotate_left; (go_simp; with_reducible rfl)) | (refine C_s (v := ?_) rfl rfl hS0 (fun w' hS => ?_) ?_; rotate_left; ((try dsimp only at hS); go_simp; with_reducible rfl)) | (refine C_t (v := ?_) rfl rfl ?_ ?_; rotate_left; (go_simp; with_reducible rfl)) | (refine C_po rfl rfl ?_) | (refine C_so rfl rfl hS0 ?_) | (refine C_to rfl rfl ?_)); simp only [Act.put, List.setIfInBounds_toArray, List.set_cons_zero, List.set_cons_succ]))
        refine C_nil ?_
        clear d0 d1
        go_wp2_with fail
        go_ret
        exact ⟨by rw [HRT.out]; rfl, HD.out⟩
      · have c1I : decide (k1 < a) = false := decide_eq_false c1
        by_cases c2 : b < k1
        · have c2I : decide (b < k1) = true := decide_eq_true c2
          have hr : r = true := by rw [HST.out, c1I, c2I]; rfl
          have HRT := Lib.hid hr
          clear hr
          refine wp_region_canon rfl (fun _ => True) [(0, .p), (1, .t), (2, .p), (3, .p), (4, .p), (5, .p), (6, .t), (7, .p), (8, .p), (9, .p), (10, .p), (11, .p), (12, .p), (13, .p), (14, .p), (15, .t), (16, .p), (17, .p), (18, .p), (19, .p), (20, .p), (21, .t), (22, .p), (23, .p), (24, .p), (25, .p), (26, .p), (27, .t), (28, .p), (29, .p), (30, .p)] (by kernel_rfl) ?_
          rw [← HW2.out.2.2]
          have hS0 : True := trivial
          (repeat ((first | (refine C_p (v := ?_) rfl rfl (fun w' => ?_) ?_; rotate_left; (go_simp; with_reducible rfl)) | (refine C_s (v := ?_) rfl rfl hS0 (fun w' hS => ?_) ?_; rotate_left; ((try dsimp only at hS); go_simp; with_reducible rfl)) | (refine C_t (v := ?_) rfl rfl ?_ ?_; rotate_left; (go_simp; with_reducible rfl)) | (refine C_po rfl rfl ?_) | (refine C_so rfl rfl hS0 ?_) | (refine C_to rfl rfl ?_)); simp only [Act.put, List.setIfInBounds_toArray, List.set_cons_zero, List.set_cons_succ]))
          refine C_nil ?_
          clear d0 d1
          go_wp2_with fail
          go_ret
          exact ⟨by rw [HRT.out]; rfl, HD.out⟩
        · have c2I : decide (b < k1) = false := decide_eq_false c2
          by_cases c3 : i = 0
          · subst c3
            have c3I : decide ((0 : Int) < ((0 : Nat) : Int)) = false := by decide
            by_cases c4 : 65536 < vl
            · have c4I : decide ((65536 : Int) < (vl : Int)) = true := decide_eq_true (by omega)
              have hr : r = true := by rw [HST.out, c1I, c2I, decide_eq_true c4]; rfl
              have HRT := Lib.hid hr
              clear hr
              refine wp_region_canon rfl (fun _ => True) [(0, .p), (1, .t), (2, .p), (3, .p), (4, .p), (5, .p), (6, .t), (7, .p), (8, .p), (9, .p), (10, .p), (11, .p), (12, .p), (13, .p), (14, .p), (15, .t), (16, .p), (17, .p), (18, .p), (19, .p), (20, .p), (21, .t), (22, .p), (23, .p), (24, .p), (25, .p), (26, .p), (27, .t), (28, .p), (29, .p), (30, .p)] (by kernel_rfl) ?_
              rw [← HW2.out.2.2]
              have hS0 : True := trivial
              (repeat ((first | (refine C_p (v := ?_) rfl rfl (fun w' => ?_) ?_; rotate_left; (go_simp; with_reducible rfl)) | (refine C_s (v := ?_) rfl rfl hS0 (fun w' hS => ?_) ?_; rotate_left; ((try dsimp only at hS); go_simp; with_reducible rfl)) | (refine C_t (v := ?_) rfl rfl ?_ ?_; rotate_left; (go_simp; with_reducible rfl)) | (refine C_po rfl rfl ?_) | (refine C_so rfl rfl hS0 ?_) | (refine C_to rfl rfl ?_)); simp only [Act.put, List.setIfInBounds_toArray, List.set_cons_zero, List.set_cons_succ]))
              refine C_nil ?_
              clear d0 d1
              go_wp2_with fail
              go_ret
              exact ⟨by rw [HRT.out]; rfl, HD.out⟩
            · have c4I : decide ((65536 : Int) < (vl : Int)) = false := decide_eq_false (by omega)
              have hr : r = wrongP a b (ps.drop (0 + 1)) (prevK ps (0 + 1)) := by rw [HST.out, c1I, c2I, decide_eq_false c4]; rfl
              have HRT := Lib.hid hr
              clear hr
              refine wp_region_canon rfl (fun _ => True) [(0, .p), (1, .t), (2, .p), (3, .p), (4, .p), (5, .p), (6, .t), (7, .p), (8, .p), (9, .p), (10, .p), (11, .p), (12, .p), (13, .p), (14, .p), (15, .t), (16, .p), (17, .p), (18, .p), (19, .p), (20, .p), (21, .t), (22, .p), (23, .p), (24, .p), (25, .p), (26, .p), (27, .t), (28, .p), (29, .p), (30, .p)] (by kernel_rfl) ?_
              rw [← HW2.out.2.2]
              have hS0 : True := trivial
              (repeat ((first | (refine C_p (v := ?_) rfl rfl (fun w' => ?_) ?_; rotate_left; (go_simp; with_reducible rfl)) | (refine C_s (v := ?_) rfl rfl hS0 (fun w' hS => ?_) ?_; rotate_left; ((try dsimp only at hS); go_simp; with_reducible rfl)) | (refine C_t (v := ?_) rfl rfl ?_ ?_; rotate_left; (go_simp; with_reducible rfl)) | (refine C_po rfl rfl ?_) | (refine C_so rfl rfl hS0 ?_) | (refine C_to rfl rfl ?_)); simp only [Act.put, List.setIfInBounds_toArray, List.set_cons_zero, List.set_cons_succ]))
              refine C_nil ?_
              clear d0 d1
              go_wp2_with fail
              go_roundw
              case rel => exact ⟨0 + 1, by omega, by go_num, Lib.hid HRT.out, HD.out⟩
              case measure => simp only [intOf]; omega
          · obtain ⟨kp, hkp, hkc⟩ := HPV.out (i - 1) (by omega)
            have hpk : prevK ps i = some kp := by unfold prevK; rw [if_neg c3]; exact hkp
            have dp : wd.cell? ⟨pb, po + (i - 1) * 2, none⟩ = some (.int .i64 kp) := hkc wd HE.out
            have c3I : decide (0 < i) = true := decide_eq_true (by omega)
            have hsub : IntKind.i64.wrap ((i : Int) - 1) = ((i - 1 : Nat) : Int) := by rw [IntWalk.i64_in _ (by omega)]; omega
            have hbd : ((i - 1 : Nat) : Int) < (pn : Int) := by omega
            have HPK := Lib.hid hpk
            clear hkp hkc hpk
            by_cases c5 : k1 ≤ kp
            · have c5I : decide (k1 ≤ kp) = true := decide_eq_true c5
              have hr : r = true := by rw [HST.out, c1I, c2I, HPK.out]; simp only [c5I]; rfl
              have HRT := Lib.hid hr
              clear hr
              refine wp_region_canon rfl (fun _ => True) [(0, .p), (1, .t), (2, .p), (3, .p), (4, .p), (5, .p), (6, .t), (7, .p), (8, .p), (9, .p), (10, .p), (11, .p), (12, .p), (13, .p), (14, .p), (15, .t), (16, .p), (17, .p), (18, .p), (19, .p), (20, .p), (21, .t), (22, .p), (23, .p), (24, .p), (25, .p), (26, .p), (27, .t), (28, .p), (29, .p), (30, .p)] (by kernel_rfl) ?_
              rw [← HW2.out.2.2]
              have hS0 : True := trivial
              (repeat ((first | (refine C_p (v := ?_) rfl rfl (fun w' => ?_) ?_; rotate_left; (go_simp; with_reducible rfl)) | (refine C_s (v := ?_) rfl rfl hS0 (fun w' hS => ?_) ?_; rotate_left; ((try dsimp only at hS); go_simp; with_reducible rfl)) | (refine C_t (v := ?_) rfl rfl ?_ ?_; rotate_left; (go_simp; with_reducible rfl)) | (refine C_po rfl rfl ?_) | (refine C_so rfl rfl hS0 ?_) | (refine C_to rfl rfl ?_)); simp only [Act.put, List.setIfInBounds_toArray, List.set_cons_zero, List.set_cons_succ]))
              refine C_nil ?_
              clear d0 d1
              go_wp2_with fail
              go_ret
              exact ⟨by rw [HRT.out]; rfl, HD.out⟩
            · have c5I : decide (k1 ≤ kp) = false := decide_eq_false c5
              by_cases c4 : 65536 < vl
              · have c4I : decide ((65536 : Int) < (vl : Int)) = true := decide_eq_true (by omega)
                have hr : r = true := by rw [HST.out, c1I, c2I, HPK.out, decide_eq_true c4]; simp only [c5I]; rfl
                have HRT := Lib.hid hr
                clear hr
                refine wp_region_canon rfl (fun _ => True) [(0, .p), (1, .t), (2, .p), (3, .p), (4, .p), (5, .p), (6, .t), (7, .p), (8, .p), (9, .p), (10, .p), (11, .p), (12, .p), (13, .p), (14, .p), (15, .t), (16, .p), (17, .p), (18, .p), (19, .p), (20, .p), (21, .t), (22, .p), (23, .p), (24, .p), (25, .p), (26, .p), (27, .t), (28, .p), (29, .p), (30, .p)] (by kernel_rfl) ?_
                rw [← HW2.out.2.2]
                have hS0 : True := trivial
                (repeat ((first | (refine C_p (v := ?_) rfl rfl (fun w' => ?_) ?_; rotate_left; (go_simp; with_reducible rfl)) | (refine C_s (v := ?_) rfl rfl hS0 (fun w' hS => ?_) ?_; rotate_left; ((try dsimp only at hS); go_simp; with_reducible rfl)) | (refine C_t (v := ?_) rfl rfl ?_ ?_; rotate_left; (go_simp; with_reducible rfl)) | (refine C_po rfl rfl ?_) | (refine C_so rfl rfl hS0 ?_) | (refine C_to rfl rfl ?_)); simp only [Act.put, List.setIfInBounds_toArray, List.set_cons_zero, List.set_cons_succ]))
                refine C_nil ?_
                clear d0 d1
                go_wp2_with fail
                go_ret
                exact ⟨by rw [HRT.out]; rfl, HD.out⟩
              · have c4I : decide ((65536 : Int) < (vl : Int)) = false := decide_eq_false (by omega)
                have hr : r = wrongP a b (ps.drop (i + 1)) (prevK ps (i + 1)) := by rw [HST.out, c1I, c2I, HPK.out, decide_eq_false c4]; simp only [c5I]; rfl
                have HRT := Lib.hid hr
                clear hr
                refine wp_region_canon rfl (fun _ => True) [(0, .p), (1, .t), (2, .p), (3, .p), (4, .p), (5, .p), (6, .t), (7, .p), (8, .p), (9, .p), (10, .p), (11, .p), (12, .p), (13, .p), (14, .p), (15, .t), (16, .p), (17, .p), (18, .p), (19, .p), (20, .p), (21, .t), (22, .p), (23, .p), (24, .p), (25, .p), (26, .p), (27, .t), (28, .p), (29, .p), (30, .p)] (by kernel_rfl) ?_
                rw [← HW2.out.2.2]
                have hS0 : True := trivial
                (repeat ((first | (refine C_p (v := ?_) rfl rfl (fun w' => ?_) ?_; rotate_left; (go_simp; with_reducible rfl)) | (refine C_s (v := ?_) rfl rfl hS0 (fun w' hS => ?_) ?_; rotate_left; ((try dsimp only at hS); go_simp; with_reducible rfl)) | (refine C_t (v := ?_) rfl rfl ?_ ?_; rotate_left; (go_simp; with_reducible rfl)) | (refine C_po rfl rfl ?_) | (refine C_so rfl rfl hS0 ?_) | (refine C_to rfl rfl ?_)); simp only [Act.put, List.setIfInBounds_toArray, List.set_cons_zero, List.set_cons_succ]))
                refine C_nil ?_
                clear d0 d1
                go_wp2_with fail
                go_roundw
                case rel => exact ⟨i + 1, by omega, by go_num, Lib.hid HRT.out, HD.out⟩
                case measure => simp only [intOf]; omega
    · obtain rfl : i = pn := by omega
      have g0 : ¬ (i : Int) < (i : Int) := by omega
      have hr : r = false := by
        rw [HRR.out, List.drop_of_length_le (by rw [HP.out.1]; exact Nat.le_refl _)]; rfl
      have HS := Lib.hid (And.intro hr hS)
      clear hS hr
      go_wp2_with fail
      go_ret
      exact ⟨by rw [HS.out.1]; rfl, HS.out.2⟩
end Go.Proofs.YtcmjbjlliehdiaaDoor
