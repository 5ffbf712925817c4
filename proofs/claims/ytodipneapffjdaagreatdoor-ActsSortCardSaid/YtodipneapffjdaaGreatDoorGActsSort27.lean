/- slices.symMergeCmpFunc at acts: one element before many. -/
import Derived.Test.YtodipneapffjdaaGreatDoorGActsSort26
namespace Go.Proofs.YtodipneapffjdaaGreatDoor
open Go.RowKit PA
attribute [local go_sem ↓] sizeAct
set_option maxRecDepth 100000 in
set_option maxHeartbeats 4000000 in
theorem sym_a {W w : World} {A A0 : Assn} {D : Ac → Ac → Prop} {c : Ac → Ac → Int} {g N : Nat} {f : Nat → Ac} {tl : List Value} (hT : Total c) (hC : CmpOK W A0 D c) (hD : DF D N f) (hN : N ≤ 65536) (cp : Nat) (a m b : Nat) (h1 : m = a + 1) (h2 : m < b) (h3 : b ≤ N)
    (hs : SrtF c m b f) (h : Sat W w (sep (arow g N f tl) (sep A0 A))) :
    Calls Tryz.prog 49 #[.slice (some ⟨g, 0, none⟩) N cp, .int .i64 a, .int .i64 m, .int .i64 b, .func (.func 9) #[] #[]] w fun e w' => e = .returned (.tuple #[]) ∧ ∃ f', Sw a b f f' ∧ SrtF c a b f' ∧ Sat W w' (sep (arow g N f' tl) (sep A0 A)) := by
  have HM := Lib.hid h1
  have HC := Lib.hid hC
  have HT := Lib.hid hT
  have HD := Lib.hid hD
  have HS := Lib.hid hs
  have H := Lib.hid h
  have hq : ((m : Int) - (a : Int) == 1) = true := by simp; omega
  have ham : a < m := by omega
  clear hC hT hD hs h h1
  go_enter Tryz.func49, Tryz.ntmps49
  go_wp2
  go_loopw [10, 11] (fun iv jv wr => ∃ (i j : Nat), iv = .int .i64 i ∧ jv = .int .i64 j ∧ Bs c m b i j f (f a) ∧ Sat W wr (sep (arow g N f tl) (sep A0 A))) (fun iv jv _ => (intOf jv).toNat - (intOf iv).toNat)
  case atStart => exact ⟨m, b, rfl, rfl, .start (by omega) f _, H.out⟩
  case round =>
    obtain ⟨i, j, rfl, rfl, hB, hS⟩ := hrel
    have b1 := hB.h1
    have b2 := hB.h2
    have b3 := hB.h3
    have HB := Lib.hid hB
    clear hB
    by_cases hlt : i < j
    · have hltz : (i : Int) < (j : Int) := by omega
      obtain ⟨x, hx⟩ : ∃ x, x = (i + j) / 2 := ⟨_, rfl⟩
      have ex : ((i : Int) + (j : Int)) / 2 = (x : Int) := by omega
      have x1 : i ≤ x := by omega
      have x2 : x < j := by omega
      have jx : (x : Int) < (N : Int) := by omega
      have ja : (a : Int) < (N : Int) := by omega
      have hd := hS.drew
      obtain ⟨wd, hwd⟩ : ∃ wd, wd = wr.drew := ⟨_, rfl⟩
      rw [← hwd] at hd
      have l1 := arow_ld hd x (by omega)
      have l2 := arow_ld hd a (by omega)
      have hcc := HC.out (f x) (f a) wd _ (HD.out x a (by omega) (by omega) (by omega)) hd.p1
      obtain ⟨cv, hcv⟩ : ∃ cv, cv = c (f x) (f a) := ⟨_, rfl⟩
      rw [← hcv] at hcc
      have HCV := Lib.hid hcv
      have HCC := Lib.hid hcc
      have HWD := Lib.hid hwd
      clear hd hwd hS hcc hcv hx
      go_upto_region 5 with (fail)
      clear ex
      refine wp_region_canon rfl (fun _ => True) [(0, .p), (1, .p), (2, .p), (3, .p), (4, .t), (5, .p), (6, .p), (7, .p), (8, .t), (9, .e false), (10, .p)] (by kernel_rfl) ?_
      have hS0 : True := trivial
      rw [← HWD.out]
      (repeat ((first | (refine C_p (v := ?_) rfl rfl (fun w' => ?_) ?_; rotate_left; (go_simp; with_reducible rfl)) | (refine C_s (v := ?_) rfl rfl hS0 (fun w' hS => ?_) ?_; rotate_left; ((try dsimp only at hS); go_simp; with_reducible rfl)) | (refine C_t (v := ?_) rfl rfl ?_ ?_; rotate_left; (go_simp; with_reducible rfl)) | (refine C_po rfl rfl ?_) | (refine C_so rfl rfl hS0 ?_) | (refine C_to rfl rfl ?_)); simp only [Act.put, List.setIfInBounds_toArray, List.set_cons_zero, List.set_cons_succ]))
      clear l1 l2
      (refine C_e rfl rfl (fun K hK => ?_); go_simp)
      refine HCC.out.mono ?_
      rintro e w3 ⟨rfl, h3⟩
      (refine hK _ _ (fun h => by cases h) ?_; clear hK K; (try simp only [Act.put, List.setIfInBounds_toArray, List.set_cons_zero, List.set_cons_succ]))
      clear HCC HWD
      have H3 := Lib.hid h3.p1
      clear h3
      by_cases hlv : cv < 0
      · (repeat ((first | (refine C_p (v := ?_) rfl rfl (fun w' => ?_) ?_; rotate_left; (go_simp; with_reducible rfl)) | (refine C_s (v := ?_) rfl rfl hS0 (fun w' hS => ?_) ?_; rotate_left; ((try dsimp only at hS); go_simp; with_reducible rfl)) | (refine C_t (v := ?_) rfl rfl ?_ ?_; rotate_left; (go_simp; with_reducible rfl)) | (refine C_po rfl rfl ?_) | (refine C_so rfl rfl hS0 ?_) | (refine C_to rfl rfl ?_)); simp only [Act.put, List.setIfInBounds_toArray, List.set_cons_zero, List.set_cons_succ]))
        refine C_nil ?_
        go_wp2
        go_roundw
        case rel =>
          exact ⟨x + 1, j, by go_num, rfl, HB.out.right HT.out HS.out x1 x2 (by rw [← HCV.out]; omega), H3.out⟩
        case measure => simp [intOf]; omega
      · (repeat ((first | (refine C_p (v := ?_) rfl rfl (fun w' => ?_) ?_; rotate_left; (go_simp; with_reducible rfl)) | (refine C_s (v := ?_) rfl rfl hS0 (fun w' hS => ?_) ?_; rotate_left; ((try dsimp only at hS); go_simp; with_reducible rfl)) | (refine C_t (v := ?_) rfl rfl ?_ ?_; rotate_left; (go_simp; with_reducible rfl)) | (refine C_po rfl rfl ?_) | (refine C_so rfl rfl hS0 ?_) | (refine C_to rfl rfl ?_)); simp only [Act.put, List.setIfInBounds_toArray, List.set_cons_zero, List.set_cons_succ]))
        refine C_nil ?_
        go_wp2
        go_roundw
        case rel =>
          exact ⟨i, x, rfl, rfl, HB.out.left HT.out HS.out x1 x2 (by rw [← HCV.out]; omega), H3.out⟩
        case measure => simp [intOf]; omega
    · obtain rfl : i = j := by omega
      have HS2 := Lib.hid hS
      clear hS H
      go_wp2
      go_loopw [13] (fun kv wr => ∃ (k : Nat) (f' : Nat → Ac), kv = .int .i64 k ∧ a ≤ k ∧ k + 1 ≤ i ∧ Rot f a m (k + 1) f' ∧ Sw a b f f' ∧ Sat W wr (sep (arow g N f' tl) (sep A0 A))) (fun kv _ => i - (intOf kv).toNat)
      case atStart => exact ⟨a, f, rfl, by omega, by omega, by rw [HM.out]; exact .up0 f a, .refl, HS2.out⟩
      case round =>
        obtain ⟨k, f1, rfl, hk1, hk2, hR, hW, hS⟩ := hrel
        have HR := Lib.hid hR
        have HW := Lib.hid hW
        clear hR hW
        by_cases hk3 : k + 1 < i
        · have hk3z : (k : Int) < (i : Int) - 1 := by omega
          have ew : IntKind.i64.wrap ((k : Int) + 1) = (k : Int) + 1 := IntWalk.i64_in _ (by omega)
          have p0 : (0 : Int) ≤ (k : Int) + 1 := by omega
          have e0 : ((k : Int) + 1).toNat = k + 1 := by omega
          have jk : (k : Int) + 1 < (N : Int) := by omega
          have jk2 : (k : Int) < (N : Int) := by omega
          have hd := hS.drew
          obtain ⟨wd, hwd⟩ : ∃ wd, wd = wr.drew := ⟨_, rfl⟩
          rw [← hwd] at hd
          have l1 := arow_ld hd (k + 1) (by omega)
          have l2 := arow_ld hd k (by omega)
          obtain ⟨w4, w5, s1, s2, h5⟩ := arow_swap hd k (k + 1) (by omega) (by omega)
          have HWD := Lib.hid hwd
          have H5 := Lib.hid h5
          clear hd hwd h5 hS
          go_wp2_with fail
          refine wp_region_canon rfl (fun _ => True) [(0, .p), (1, .p), (2, .p), (3, .p), (4, .p), (5, .p), (6, .p), (7, .p), (8, .p), (9, .t), (10, .p), (11, .p), (12, .p), (13, .t), (14, .p), (15, .e false), (16, .p), (17, .e false)] (by kernel_rfl) ?_
          have hS0 : True := trivial
          rw [← HWD.out]
          (repeat ((first | (refine C_p (v := ?_) rfl rfl (fun w' => ?_) ?_; rotate_left; (go_simp; with_reducible rfl)) | (refine C_s (v := ?_) rfl rfl hS0 (fun w' hS => ?_) ?_; rotate_left; ((try dsimp only at hS); go_simp; with_reducible rfl)) | (refine C_t (v := ?_) rfl rfl ?_ ?_; rotate_left; (go_simp; with_reducible rfl)) | (refine C_po rfl rfl ?_) | (refine C_so rfl rfl hS0 ?_) | (refine C_to rfl rfl ?_)); simp only [Act.put, List.setIfInBounds_toArray, List.set_cons_zero, List.set_cons_succ]))
          (refine C_e rfl rfl (fun K hK => ?_); go_simp)
          (refine hK _ _ (fun h => by cases h) ?_; clear hK K; (try simp only [Act.put]))
          (repeat ((first | (refine C_p (v := ?_) rfl rfl (fun w' => ?_) ?_; rotate_left; (go_simp; with_reducible rfl)) | (refine C_s (v := ?_) rfl rfl hS0 (fun w' hS => ?_) ?_; rotate_left; ((try dsimp only at hS); go_simp; with_reducible rfl)) | (refine C_t (v := ?_) rfl rfl ?_ ?_; rotate_left; (go_simp; with_reducible rfl)) | (refine C_po rfl rfl ?_) | (refine C_so rfl rfl hS0 ?_) | (refine C_to rfl rfl ?_)); simp only [Act.put, List.setIfInBounds_toArray, List.set_cons_zero, List.set_cons_succ]))
          (refine C_e rfl rfl (fun K hK => ?_); go_simp)
          (refine hK _ _ (fun h => by cases h) ?_; clear hK K; (try simp only [Act.put]))
          refine C_nil ?_
          clear l1 l2 s1 s2 ew p0 e0
          go_wp2
          go_roundw
          case rel =>
              exact ⟨k + 1, _, by go_num, by omega, by omega, (by have := HR.out; rw [HM.out] at this ⊢; exact this.up hk1), .step _ _ _ HW.out (by omega) (by omega) (by omega) (by omega), H5.out⟩
          case measure => simp [intOf]; omega
        · have hik : i = k + 1 := by omega
          have hk3z : ¬ (k : Int) < (i : Int) - 1 := by omega
          have HIK := Lib.hid hik
          clear hik hk3
          go_wp2
          (try simp only [Exit.inBlock, Exit.then])
          refine bodyPost_ret (results_none rfl _ _ _) rfl ?_
          rw [← HIK.out] at HR
          exact ⟨rfl, f1, HW.out, (by have h4 := HR.out; have h5 := HB.out.lo; have h6 := HS.out; rw [HM.out] at h4 h5 h6; exact up_place HT.out h6 (by omega) b3 h5 HB.out.up h4), hS⟩
end Go.Proofs.YtodipneapffjdaaGreatDoor
/- slices.symMergeCmpFunc at acts: many before one element. -/
namespace Go.Proofs.YtodipneapffjdaaGreatDoor
open Go.RowKit PA
attribute [local go_sem ↓] sizeAct
set_option maxRecDepth 100000 in
set_option maxHeartbeats 4000000 in
theorem sym_b {W w : World} {A A0 : Assn} {D : Ac → Ac → Prop} {c : Ac → Ac → Int} {g N : Nat} {f : Nat → Ac} {tl : List Value} (hT : Total c) (hC : CmpOK W A0 D c) (hD : DF D N f) (hN : N ≤ 65536) (cp : Nat) (a m b : Nat) (h1 : b = m + 1) (h2 : a < m) (h2' : m ≠ a + 1) (h3 : b ≤ N)
    (hs : SrtF c a m f) (h : Sat W w (sep (arow g N f tl) (sep A0 A))) :
    Calls Tryz.prog 49 #[.slice (some ⟨g, 0, none⟩) N cp, .int .i64 a, .int .i64 m, .int .i64 b, .func (.func 9) #[] #[]] w fun e w' => e = .returned (.tuple #[]) ∧ ∃ f', Sw a b f f' ∧ SrtF c a b f' ∧ Sat W w' (sep (arow g N f' tl) (sep A0 A)) := by
  have HM := Lib.hid h1
  have HC := Lib.hid hC
  have HT := Lib.hid hT
  have HD := Lib.hid hD
  have HS := Lib.hid hs
  have H := Lib.hid h
  have hq0 : ((m : Int) - (a : Int) == 1) = false := by simp; omega
  have hq : ((b : Int) - (m : Int) == 1) = true := by simp; omega
  have hmb : m < b := by omega
  clear hC hT hD hs h h1 h2'
  go_enter Tryz.func49, Tryz.ntmps49
  go_wp2
  go_loopw [14, 15] (fun iv jv wr => ∃ (i j : Nat), iv = .int .i64 i ∧ jv = .int .i64 j ∧ Bs c a m i j f (f m) ∧ Sat W wr (sep (arow g N f tl) (sep A0 A))) (fun iv jv _ => (intOf jv).toNat - (intOf iv).toNat)
  case atStart => exact ⟨a, m, rfl, rfl, .start (by omega) f _, H.out⟩
  case round =>
    obtain ⟨i, j, rfl, rfl, hB, hS⟩ := hrel
    have b1 := hB.h1
    have b2 := hB.h2
    have b3 := hB.h3
    have HB := Lib.hid hB
    clear hB
    by_cases hlt : i < j
    · have hltz : (i : Int) < (j : Int) := by omega
      obtain ⟨x, hx⟩ : ∃ x, x = (i + j) / 2 := ⟨_, rfl⟩
      have ex : ((i : Int) + (j : Int)) / 2 = (x : Int) := by omega
      have x1 : i ≤ x := by omega
      have x2 : x < j := by omega
      have jx : (x : Int) < (N : Int) := by omega
      have ja : (m : Int) < (N : Int) := by omega
      have hd := hS.drew
      obtain ⟨wd, hwd⟩ : ∃ wd, wd = wr.drew := ⟨_, rfl⟩
      rw [← hwd] at hd
      have l1 := arow_ld hd x (by omega)
      have l2 := arow_ld hd m (by omega)
      have hcc := HC.out (f m) (f x) wd _ (HD.out m x (by omega) (by omega) (by omega)) hd.p1
      obtain ⟨cv, hcv⟩ : ∃ cv, cv = c (f m) (f x) := ⟨_, rfl⟩
      rw [← hcv] at hcc
      have HCV := Lib.hid hcv
      have HCC := Lib.hid hcc
      have HWD := Lib.hid hwd
      clear hd hwd hS hcc hcv hx
      go_upto_region 17 with (fail)
      clear ex
      refine wp_region_canon rfl (fun _ => True) [(0, .p), (1, .p), (2, .p), (3, .p), (4, .t), (5, .p), (6, .p), (7, .p), (8, .t), (9, .e false), (10, .p), (11, .p)] (by kernel_rfl) ?_
      have hS0 : True := trivial
      rw [← HWD.out]
      (repeat ((first | (refine C_p (v := ?_) rfl rfl (fun w' => ?_) ?_; rotate_left; (go_simp; with_reducible rfl)) | (refine C_s (v := ?_) rfl rfl hS0 (fun w' hS => ?_) ?_; rotate_left; ((try dsimp only at hS); go_simp; with_reducible rfl)) | (refine C_t (v := ?_) rfl rfl ?_ ?_; rotate_left; (go_simp; with_reducible rfl)) | (refine C_po rfl rfl ?_) | (refine C_so rfl rfl hS0 ?_) | (refine C_to rfl rfl ?_)); simp only [Act.put, List.setIfInBounds_toArray, List.set_cons_zero, List.set_cons_succ]))
      clear l1 l2
      (refine C_e rfl rfl (fun K hK => ?_); go_simp)
      refine HCC.out.mono ?_
      rintro e w3 ⟨rfl, h3⟩
      (refine hK _ _ (fun h => by cases h) ?_; clear hK K; (try simp only [Act.put, List.setIfInBounds_toArray, List.set_cons_zero, List.set_cons_succ]))
      clear HCC HWD
      have H3 := Lib.hid h3.p1
      clear h3
      have hfl := HT.out.flip (f x) (f m)
      rw [← HCV.out] at hfl
      have HFL := Lib.hid hfl
      clear hfl
      by_cases hlv : cv < 0
      · (repeat ((first | (refine C_p (v := ?_) rfl rfl (fun w' => ?_) ?_; rotate_left; (go_simp; with_reducible rfl)) | (refine C_s (v := ?_) rfl rfl hS0 (fun w' hS => ?_) ?_; rotate_left; ((try dsimp only at hS); go_simp; with_reducible rfl)) | (refine C_t (v := ?_) rfl rfl ?_ ?_; rotate_left; (go_simp; with_reducible rfl)) | (refine C_po rfl rfl ?_) | (refine C_so rfl rfl hS0 ?_) | (refine C_to rfl rfl ?_)); simp only [Act.put, List.setIfInBounds_toArray, List.set_cons_zero, List.set_cons_succ]))
        refine C_nil ?_
        go_wp2
        go_roundw
        case rel => exact ⟨i, x, rfl, rfl, HB.out.left HT.out HS.out x1 x2 (by have := HFL.out; omega), H3.out⟩
        case measure => simp [intOf]; omega
      · (repeat ((first | (refine C_p (v := ?_) rfl rfl (fun w' => ?_) ?_; rotate_left; (go_simp; with_reducible rfl)) | (refine C_s (v := ?_) rfl rfl hS0 (fun w' hS => ?_) ?_; rotate_left; ((try dsimp only at hS); go_simp; with_reducible rfl)) | (refine C_t (v := ?_) rfl rfl ?_ ?_; rotate_left; (go_simp; with_reducible rfl)) | (refine C_po rfl rfl ?_) | (refine C_so rfl rfl hS0 ?_) | (refine C_to rfl rfl ?_)); simp only [Act.put, List.setIfInBounds_toArray, List.set_cons_zero, List.set_cons_succ]))
        refine C_nil ?_
        go_wp2
        go_roundw
        case rel => exact ⟨x + 1, j, by go_num, rfl, HB.out.right HT.out HS.out x1 x2 (by have := HFL.out; omega), H3.out⟩
        case measure => simp [intOf]; omega
    · obtain rfl : i = j := by omega
      have HS2 := Lib.hid hS
      clear hS H
      go_wp2
      go_loopw [17] (fun kv wr => ∃ (k : Nat) (f' : Nat → Ac), kv = .int .i64 k ∧ i ≤ k ∧ k ≤ m ∧ Rot f k m b f' ∧ Sw a b f f' ∧ Sat W wr (sep (arow g N f' tl) (sep A0 A))) (fun kv _ => (intOf kv).toNat)
      case atStart => exact ⟨m, f, rfl, by omega, by omega, by rw [HM.out]; exact .down0 f m, .refl, HS2.out⟩
      case round =>
        obtain ⟨k, f1, rfl, hk1, hk2, hR, hW, hS⟩ := hrel
        have HR := Lib.hid hR
        have HW := Lib.hid hW
        clear hR hW
        by_cases hk3 : i < k
        · have hk3z : (i : Int) < (k : Int) := by omega
          obtain ⟨k', hk'⟩ : ∃ k', k' = k - 1 := ⟨_, rfl⟩
          have ew : IntKind.i64.wrap ((k : Int) - 1) = (k' : Int) := by rw [IntWalk.i64_in _ (by omega)]; omega
          have ew2 : (k : Int) - 1 = (k' : Int) := by omega
          have jk : (k : Int) < (N : Int) := by omega
          have jk2 : (k' : Int) < (N : Int) := by omega
          have hd := hS.drew
          obtain ⟨wd, hwd⟩ : ∃ wd, wd = wr.drew := ⟨_, rfl⟩
          rw [← hwd] at hd
          have l1 := arow_ld hd k' (by omega)
          have l2 := arow_ld hd k (by omega)
          obtain ⟨w4, w5, s1, s2, h5⟩ := arow_swap hd k k' (by omega) (by omega)
          have HWD := Lib.hid hwd
          have H5 := Lib.hid h5
          have HK := Lib.hid hk'
          clear hd hwd h5 hS hk'
          go_wp2_with fail
          clear ew2
          refine wp_region_canon rfl (fun _ => True) [(0, .p), (1, .p), (2, .p), (3, .p), (4, .p), (5, .p), (6, .p), (7, .p), (8, .p), (9, .t), (10, .p), (11, .p), (12, .p), (13, .t), (14, .p), (15, .e false), (16, .p), (17, .e false)] (by kernel_rfl) ?_
          have hS0 : True := trivial
          rw [← HWD.out]
          (repeat ((first | (refine C_p (v := ?_) rfl rfl (fun w' => ?_) ?_; rotate_left; (go_simp; with_reducible rfl)) | (refine C_s (v := ?_) rfl rfl hS0 (fun w' hS => ?_) ?_; rotate_left; ((try dsimp only at hS); go_simp; with_reducible rfl)) | (refine C_t (v := ?_) rfl rfl ?_ ?_; rotate_left; (go_simp; with_reducible rfl)) | (refine C_po rfl rfl ?_) | (refine C_so rfl rfl hS0 ?_) | (refine C_to rfl rfl ?_)); simp only [Act.put, List.setIfInBounds_toArray, List.set_cons_zero, List.set_cons_succ]))
          (refine C_e rfl rfl (fun K hK => ?_); go_simp)
          (refine hK _ _ (fun h => by cases h) ?_; clear hK K; (try simp only [Act.put]))
          (repeat ((first | (refine C_p (v := ?_) rfl rfl (fun w' => ?_) ?_; rotate_left; (go_simp; with_reducible rfl)) | (refine C_s (v := ?_) rfl rfl hS0 (fun w' hS => ?_) ?_; rotate_left; ((try dsimp only at hS); go_simp; with_reducible rfl)) | (refine C_t (v := ?_) rfl rfl ?_ ?_; rotate_left; (go_simp; with_reducible rfl)) | (refine C_po rfl rfl ?_) | (refine C_so rfl rfl hS0 ?_) | (refine C_to rfl rfl ?_)); simp only [Act.put, List.setIfInBounds_toArray, List.set_cons_zero, List.set_cons_succ]))
          (refine C_e rfl rfl (fun K hK => ?_); go_simp)
          (refine hK _ _ (fun h => by cases h) ?_; clear hK K; (try simp only [Act.put]))
          refine C_nil ?_
          have ew2 : (k : Int) - 1 = (k' : Int) := by have := HK.out; omega
          clear l1 l2 s1 s2 ew
          go_wp2
          go_roundw
          case rel =>
            refine ⟨k', _, rfl, by have := HK.out; omega, by have := HK.out; omega, ?_, .step _ _ _ HW.out (by omega) (by omega) (by have := HK.out; omega) (by have := HK.out; omega), H5.out⟩
            have h4 := HR.out
            rw [HM.out] at h4 ⊢
            rw [HK.out]
            exact h4.down (by omega) (by omega)
          case measure => have := HK.out; simp [intOf]; omega
        · have hik : i = k := by omega
          have hk3z : ¬ (i : Int) < (k : Int) := by omega
          have HIK := Lib.hid hik
          clear hik hk3
          go_wp2
          (try simp only [Exit.inBlock, Exit.then])
          refine bodyPost_ret (results_none rfl _ _ _) rfl ?_
          rw [← HIK.out] at HR
          refine ⟨rfl, f1, HW.out, ?_, hS⟩
          have h4 := HR.out
          rw [HM.out] at h4 ⊢
          exact down_place HT.out HS.out (by omega) (by omega) (fun q q1 q2 => by have h5 := HB.out.lo q q1 q2; have := HT.out.flip (f q) (f m); omega) (fun q q1 q2 => by have h5 := HB.out.up q q1 q2; have := HT.out.flip (f q) (f m); omega) h4
end Go.Proofs.YtodipneapffjdaaGreatDoor
