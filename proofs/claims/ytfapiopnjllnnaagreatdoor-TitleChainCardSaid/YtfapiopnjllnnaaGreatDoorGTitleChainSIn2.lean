/- slices.insertionSortCmpFunc at acts. -/
import Derived.Test.YtfapiopnjllnnaaGreatDoorGTitleChainSIn1
namespace Go.Proofs.YtfapiopnjllnnaaGreatDoor
open Go.RowKit PA
attribute [local go_sem ↓] sizeAct
/-- What a sort asks of the comparison. -/
def CmpOK (W : World) (A0 : Assn) (D : Ac → Ac → Prop) (c : Ac → Ac → Int) : Prop := ∀ (x y : Ac) (w : World) (B : Assn), D x y → Sat W w (sep A0 B) →
  Calls Tryz.prog 40 #[.agg x.cells.toArray, .agg y.cells.toArray] w fun e w' => e = .returned (.int .i64 (c x y)) ∧ Sat W w' (sep A0 B)
set_option maxRecDepth 100000 in
set_option maxHeartbeats 4000000 in
theorem ins_spec {W w : World} {A A0 : Assn} {D : Ac → Ac → Prop} {c : Ac → Ac → Int} {g N : Nat} {f : Nat → Ac} {tl : List Value} (hT : Total c) (hC : CmpOK W A0 D c) (hD : DF D N f) (hN : N ≤ 65536) (cp : Nat) (a b : Nat) (hab : a ≤ b) (hb : b ≤ N)
    (h : Sat W w (sep (arow g N f tl) (sep A0 A))) :
    Calls Tryz.prog 83 #[.slice (some ⟨g, 0, none⟩) N cp, .int .i64 a, .int .i64 b, .func (.func 40) #[] #[]] w fun e w' => ∃ f', e = .returned (.tuple #[]) ∧ Sw a b f f' ∧ SrtF c a b f' ∧ Sat W w' (sep (arow g N f' tl) (sep A0 A)) := by
  have HC := Lib.hid hC
  have HT := Lib.hid hT
  have HD := Lib.hid hD
  have hNI : (N : Int) ≤ 65536 := by omega
  have hbI : (b : Int) ≤ N := by omega
  have haI : (a : Int) ≤ b := by omega
  clear hC hT hD
  go_enter Tryz.func83, Tryz.ntmps83
  go_wp2
  go_loopw [8] (fun iv wr => ∃ (i : Nat) (f' : Nat → Ac), iv = .int .i64 i ∧ a < i ∧ i ≤ b + 1 ∧ Sw a b f f' ∧ SrtF c a (min i b) f' ∧ Sat W wr (sep (arow g N f' tl) (sep A0 A))) (fun iv _ => b + 1 - (intOf iv).toNat)
  case atStart => exact ⟨a + 1, f, by go_num, by omega, by omega, .refl, fun p q p1 p2 p3 => by omega, h⟩
  case round =>
    obtain ⟨i, f1, rfl, hai, hib, hsw, hsr, hS⟩ := hrel
    have HSW := Lib.hid hsw
    have HSR := Lib.hid hsr
    have HS := Lib.hid hS
    clear hsw hsr hS h
    by_cases hlt : i < b
    · have hltz : (i : Int) < (b : Int) := by omega
      go_wp2
      go_loopw [9] (fun jv wr => ∃ (j : Nat) (f' : Nat → Ac), jv = .int .i64 j ∧ a ≤ j ∧ j ≤ i ∧ Sw a b f f' ∧ InsI c a i j f' ∧ Sat W wr (sep (arow g N f' tl) (sep A0 A))) (fun jv _ => (intOf jv).toNat)
      case atStart => exact ⟨i, f1, rfl, by omega, Nat.le_refl _, HSW.out, .start (by have := HSR.out; rwa [Nat.min_eq_left (by omega)] at this), HS.out⟩
      case round =>
        obtain ⟨j, f2, rfl, haj, hji, hsw2, hin, hS2⟩ := hrel
        have HSW2 := Lib.hid hsw2
        have HIN := Lib.hid hin
        have HS2 := Lib.hid hS2
        clear hsw2 hin HS HSW HSR
        by_cases hja : a < j
        · have hjaz : (a : Int) < (j : Int) := by omega
          obtain ⟨jp, rfl⟩ : ∃ jp, j = jp + 1 := ⟨j - 1, by omega⟩
          have hwp : IntKind.i64.wrap (jp : Int) = (jp : Int) := IntWalk.i64_in _ (by omega)
          have jz : (jp : Int) + 1 < (N : Int) := by omega
          have jz1 : (jp : Int) < (N : Int) := by omega
          have hjaz' : (a : Int) < (jp : Int) + 1 := by omega
          have p0 : (0 : Int) ≤ (jp : Int) + 1 := by omega
          have e0 : ((jp : Int) + 1).toNat = jp + 1 := by omega
          have hd := hS2.drew
          obtain ⟨wd, hwd⟩ : ∃ wd, wd = wr.drew := ⟨_, rfl⟩
          rw [← hwd] at hd
          have l1 := arow_ld hd (jp + 1) (by omega)
          have l2 := arow_ld hd jp (by omega)
          have hcc := HC.out (f2 (jp + 1)) (f2 jp) wd _ (HD.out.sw HSW2.out hb (jp + 1) jp (by omega) (by omega) (by omega)) hd.p1
          obtain ⟨cv, hcv⟩ : ∃ cv, cv = c (f2 (jp + 1)) (f2 jp) := ⟨_, rfl⟩
          rw [← hcv] at hcc
          have HCV := Lib.hid hcv
          have HCC := Lib.hid hcc
          have HWD := Lib.hid hwd
          clear hd hcc hwd hS2 hcv
          go_wp2_with fail
          refine wp_region_canon rfl (fun _ => True) [(0, .p), (1, .p), (2, .p), (3, .p), (4, .p), (5, .p), (6, .p), (7, .p), (8, .t), (9, .p), (10, .p), (11, .p), (12, .p), (13, .t), (14, .e false), (15, .p), (16, .p)] (by kernel_rfl) ?_
          have hS0 : True := trivial
          rw [← HWD.out]
          (repeat ((first | (refine C_p (v := ?_) rfl rfl (fun w' => ?_) ?_; rotate_left; (go_simp; with_reducible rfl)) | (refine C_s (v := ?_) rfl rfl hS0 (fun w' hS => ?_) ?_; rotate_left; ((try dsimp only at hS); go_simp; with_reducible rfl)) | (refine C_t (v := ?_) rfl rfl ?_ ?_; rotate_left; (go_simp; with_reducible rfl)) | (refine C_po rfl rfl ?_) | (refine C_so rfl rfl hS0 ?_) | (refine C_to rfl rfl ?_)); simp only [Act.put, List.setIfInBounds_toArray, List.set_cons_zero, List.set_cons_succ]))
          clear l1 l2
          (refine C_e rfl rfl (fun K hK => ?_); go_simp)
          refine HCC.out.mono ?_
          rintro e w3 ⟨rfl, h3⟩
          (refine hK _ _ (fun h => by cases h) ?_; clear hK K; (try simp only [Act.put, List.setIfInBounds_toArray, List.set_cons_zero, List.set_cons_succ]))
          clear HCC HWD HS2
          by_cases hlv : cv < 0
          · (repeat ((first | (refine C_p (v := ?_) rfl rfl (fun w' => ?_) ?_; rotate_left; (go_simp; with_reducible rfl)) | (refine C_s (v := ?_) rfl rfl hS0 (fun w' hS => ?_) ?_; rotate_left; ((try dsimp only at hS); go_simp; with_reducible rfl)) | (refine C_t (v := ?_) rfl rfl ?_ ?_; rotate_left; (go_simp; with_reducible rfl)) | (refine C_po rfl rfl ?_) | (refine C_so rfl rfl hS0 ?_) | (refine C_to rfl rfl ?_)); simp only [Act.put, List.setIfInBounds_toArray, List.set_cons_zero, List.set_cons_succ]))
            refine C_nil ?_
            have hd := h3.p1.drew
            obtain ⟨wd2, hwd2⟩ : ∃ wd2, wd2 = w3.drew := ⟨_, rfl⟩
            rw [← hwd2] at hd
            have l1 := arow_ld hd (jp + 1) (by omega)
            have l2 := arow_ld hd jp (by omega)
            obtain ⟨w4, s1, h4⟩ := arow_st hd (jp + 1) (by omega) (f2 jp)
            obtain ⟨w5, s2, h5⟩ := arow_st h4 jp (by omega) (f2 (jp + 1))
            rw [swF_set, swF_comm] at h5
            have HWD := Lib.hid hwd2
            have H5 := Lib.hid h5
            clear hwd2 hd h3 h4 h5
            go_wp2_with fail
            refine wp_region_canon rfl (fun _ => True) [(0, .p), (1, .p), (2, .p), (3, .p), (4, .p), (5, .p), (6, .p), (7, .p), (8, .p), (9, .t), (10, .p), (11, .p), (12, .p), (13, .t), (14, .p), (15, .e false), (16, .p), (17, .e false)] (by kernel_rfl) ?_
            rw [← HWD.out]
            (repeat ((first | (refine C_p (v := ?_) rfl rfl (fun w' => ?_) ?_; rotate_left; (go_simp; with_reducible rfl)) | (refine C_s (v := ?_) rfl rfl hS0 (fun w' hS => ?_) ?_; rotate_left; ((try dsimp only at hS); go_simp; with_reducible rfl)) | (refine C_t (v := ?_) rfl rfl ?_ ?_; rotate_left; (go_simp; with_reducible rfl)) | (refine C_po rfl rfl ?_) | (refine C_so rfl rfl hS0 ?_) | (refine C_to rfl rfl ?_)); simp only [Act.put, List.setIfInBounds_toArray, List.set_cons_zero, List.set_cons_succ]))
            (refine C_e rfl rfl (fun K hK => ?_); go_simp)
            (refine hK _ _ (fun h => by cases h) ?_; clear hK K; (try simp only [Act.put, List.setIfInBounds_toArray, List.set_cons_zero, List.set_cons_succ]))
            (repeat ((first | (refine C_p (v := ?_) rfl rfl (fun w' => ?_) ?_; rotate_left; (go_simp; with_reducible rfl)) | (refine C_s (v := ?_) rfl rfl hS0 (fun w' hS => ?_) ?_; rotate_left; ((try dsimp only at hS); go_simp; with_reducible rfl)) | (refine C_t (v := ?_) rfl rfl ?_ ?_; rotate_left; (go_simp; with_reducible rfl)) | (refine C_po rfl rfl ?_) | (refine C_so rfl rfl hS0 ?_) | (refine C_to rfl rfl ?_)); simp only [Act.put, List.setIfInBounds_toArray, List.set_cons_zero, List.set_cons_succ]))
            (refine C_e rfl rfl (fun K hK => ?_); go_simp)
            (refine hK _ _ (fun h => by cases h) ?_; clear hK K; (try simp only [Act.put, List.setIfInBounds_toArray, List.set_cons_zero, List.set_cons_succ]))
            refine C_nil ?_
            clear l1 l2 s1 s2
            go_wp2
            go_roundw
            case rel =>
              refine ⟨jp, swF f2 (jp + 1) jp, by go_num, by omega, by omega, .step _ _ _ HSW2.out (by omega) (by omega) (by omega) (by omega), ?_, H5.out⟩
              exact HIN.out.step (by omega) (by omega) (by show c (f2 (jp + 1)) (f2 jp) < 0; rw [← HCV.out]; exact hlv)
            case measure => simp [intOf]
          · (repeat ((first | (refine C_p (v := ?_) rfl rfl (fun w' => ?_) ?_; rotate_left; (go_simp; with_reducible rfl)) | (refine C_s (v := ?_) rfl rfl hS0 (fun w' hS => ?_) ?_; rotate_left; ((try dsimp only at hS); go_simp; with_reducible rfl)) | (refine C_t (v := ?_) rfl rfl ?_ ?_; rotate_left; (go_simp; with_reducible rfl)) | (refine C_po rfl rfl ?_) | (refine C_so rfl rfl hS0 ?_) | (refine C_to rfl rfl ?_)); simp only [Act.put, List.setIfInBounds_toArray, List.set_cons_zero, List.set_cons_succ]))
            refine C_nil ?_
            have H3 := Lib.hid h3.p1
            clear h3
            go_wp2
            go_roundw
            case rel =>
              refine ⟨i + 1, f2, by go_num, by omega, by omega, HSW2.out, ?_, H3.out⟩
              rw [Nat.min_eq_left (by omega)]
              exact HIN.out.stop HT.out (by omega) hji (.inr (by show 0 ≤ c (f2 (jp + 1)) (f2 jp); rw [← HCV.out]; omega))
            case measure => simp [intOf]; omega
        · have hjaz : ¬ (a : Int) < (j : Int) := by omega
          have hjaz2 : decide ((j : Int) > (a : Int)) = false := decide_eq_false (by omega)
          go_wp2_with fail
          refine wp_region_canon rfl (fun _ => True) [(0, .p), (1, .p), (2, .p), (3, .p), (4, .p), (5, .p), (6, .p), (7, .p), (8, .t), (9, .p), (10, .p), (11, .p), (12, .p), (13, .t), (14, .e false), (15, .p), (16, .p)] (by kernel_rfl) ?_
          have hS0 : True := trivial
          (repeat ((first | (refine C_p (v := ?_) rfl rfl (fun w' => ?_) ?_; rotate_left; (go_simp; with_reducible rfl)) | (refine C_s (v := ?_) rfl rfl hS0 (fun w' hS => ?_) ?_; rotate_left; ((try dsimp only at hS); go_simp; with_reducible rfl)) | (refine C_t (v := ?_) rfl rfl ?_ ?_; rotate_left; (go_simp; with_reducible rfl)) | (refine C_po rfl rfl ?_) | (refine C_so rfl rfl hS0 ?_) | (refine C_to rfl rfl ?_)); simp only [Act.put, List.setIfInBounds_toArray, List.set_cons_zero, List.set_cons_succ]))
          (refine C_eo rfl rfl (fun h => by first | (cases h; done) | exact hS0) ?_; simp only [Act.put, List.setIfInBounds_toArray, List.set_cons_zero, List.set_cons_succ])
          (repeat ((first | (refine C_p (v := ?_) rfl rfl (fun w' => ?_) ?_; rotate_left; (go_simp; with_reducible rfl)) | (refine C_s (v := ?_) rfl rfl hS0 (fun w' hS => ?_) ?_; rotate_left; ((try dsimp only at hS); go_simp; with_reducible rfl)) | (refine C_t (v := ?_) rfl rfl ?_ ?_; rotate_left; (go_simp; with_reducible rfl)) | (refine C_po rfl rfl ?_) | (refine C_so rfl rfl hS0 ?_) | (refine C_to rfl rfl ?_)); simp only [Act.put, List.setIfInBounds_toArray, List.set_cons_zero, List.set_cons_succ]))
          refine C_nil ?_
          go_wp2
          go_roundw
          case rel =>
            refine ⟨i + 1, f2, by go_num, by omega, by omega, HSW2.out, ?_, HS2.out.drew⟩
            rw [Nat.min_eq_left (by omega)]
            exact HIN.out.stop HT.out haj hji (.inl (by omega))
          case measure => simp [intOf]; omega
    · have hltz : ¬ (i : Int) < (b : Int) := by omega
      go_wp2
      go_end0
      refine ⟨rfl, f1, HSW.out, ?_, HS.out⟩
      have := HSR.out
      rwa [Nat.min_eq_right (by omega)] at this
end Go.Proofs.YtfapiopnjllnnaaGreatDoor
