/- slices.insertionSortCmpFunc at acts. -/
import Derived.Test.YtodipneapffjdaaGreatDoorGActsSort25
namespace Go.Proofs.YtodipneapffjdaaGreatDoor
open Go.RowKit PA
attribute [local go_sem ↓] sizeAct
/-- What a sort asks of the comparison. -/
def CmpOK (W : World) (A0 : Assn) (D : Ac → Ac → Prop) (c : Ac → Ac → Int) : Prop := ∀ (x y : Ac) (w : World) (B : Assn), D x y → Sat W w (sep A0 B) →
  Calls Tryz.prog 9 #[.agg x.cells.toArray, .agg y.cells.toArray] w fun e w' => e = .returned (.int .i64 (c x y)) ∧ Sat W w' (sep A0 B)
set_option maxRecDepth 100000 in
set_option maxHeartbeats 4000000 in
theorem ins_spec {W w : World} {A A0 : Assn} {D : Ac → Ac → Prop} {c : Ac → Ac → Int} {g N : Nat} {f : Nat → Ac} {tl : List Value} (hT : Total c) (hC : CmpOK W A0 D c) (hD : DF D N f) (hN : N ≤ 65536) (cp : Nat) (a b : Nat) (hab : a ≤ b) (hb : b ≤ N)
    (h : Sat W w (sep (arow g N f tl) (sep A0 A))) :
    Calls Tryz.prog 48 #[.slice (some ⟨g, 0, none⟩) N cp, .int .i64 a, .int .i64 b, .func (.func 9) #[] #[]] w fun e w' => ∃ f', e = .returned (.tuple #[]) ∧ Sw a b f f' ∧ SrtF c a b f' ∧ Sat W w' (sep (arow g N f' tl) (sep A0 A)) := by
  have HC := Lib.hid hC
  have HT := Lib.hid hT
  have HD := Lib.hid hD
  have hNI : (N : Int) ≤ 65536 := by omega
  have hbI : (b : Int) ≤ N := by omega
  have haI : (a : Int) ≤ b := by omega
  clear hC hT hD
  go_enter Tryz.func48, Tryz.ntmps48
  go_wp2
  go_loopw [8] (fun iv wr => ∃ (i : Nat) (f' : Nat → Ac), iv = .int .i64 i ∧ a < i ∧ i ≤ b + 1 ∧ Sw a b f f' ∧ SrtF c a (min i b) f' ∧ Sat W wr (sep (arow g N f' tl) (sep A0 A))) (fun iv _ => b + 1 - (intOf iv).toNat)
  case atStart => exact ⟨a + 1, f, by go_num, by omega, by omega, .refl, fun p q p1 p2 p3 => by omega, h⟩
  case round =>
    obtain ⟨i, f1, rfl, hai, hib, hsw, hsr, hS⟩ := hrel
    have HSW := Lib.hid hsw
    have HSR := Lib.hid hsr
    have HS := Lib.hid hS
    clear hsw hsr hS h
    by_cases hlt : i < b
    · have hltz : (i : Int) < (b : Int) := by omega
      go_wp2
      go_loopw [9] (fun jv wr => ∃ (j : Nat) (f' : Nat → Ac), jv = .int .i64 j ∧ a ≤ j ∧ j ≤ i ∧ Sw a b f f' ∧ InsI c a i j f' ∧ Sat W wr (sep (arow g N f' tl) (sep A0 A))) (fun jv _ => (intOf jv).toNat)
      case atStart => exact ⟨i, f1, rfl, by omega, Nat.le_refl _, HSW.out, .start (by have := HSR.out; rwa [Nat.min_eq_left (by omega)] at this), HS.out⟩
      case round =>
        obtain ⟨j, f2, rfl, haj, hji, hsw2, hin, hS2⟩ := hrel
        have HSW2 := Lib.hid hsw2
        have HIN := Lib.hid hin
        have HS2 := Lib.hid hS2
        clear hsw2 hin HS HSW HSR
        by_cases hja : a < j
        · have hjaz : (a : Int) < (j : Int) := by omega
          obtain ⟨jp, rfl⟩ : ∃ jp, j = jp + 1 := ⟨j - 1, by omega⟩
          have hwp : IntKind.i64.wrap (jp : Int) = (jp : Int) := IntWalk.i64_in _ (by omega)
          have jz : (jp : Int) + 1 < (N : Int) := by omega
          have jz1 : (jp : Int) < (N : Int) := by omega
          have hjaz' : (a : Int) < (jp : Int) + 1 := by omega
          have p0 : (0 : Int) ≤ (jp : Int) + 1 := by omega
          have e0 : ((jp : Int) + 1).toNat = jp + 1 := by omega
          have hd := hS2.drew
          obtain ⟨wd, hwd⟩ : ∃ wd, wd = wr.drew := ⟨_, rfl⟩
          rw [← hwd] at hd
          have l1 := arow_ld hd (jp + 1) (by omega)
          have l2 := arow_ld hd jp (by omega)
          have hcc := HC.out (f2 (jp + 1)) (f2 jp) wd _ (HD.out.sw HSW2.out hb (jp + 1) jp (by omega) (by omega) (by omega)) hd.p1
          obtain ⟨cv, hcv⟩ : ∃ cv, cv = c (f2 (jp + 1)) (f2 jp) := ⟨_, rfl⟩
          rw [← hcv] at hcc
          have HCV := Lib.hid hcv
          have HCC := Lib.hid hcc
          have HWD := Lib.hid hwd
          clear hd hcc hwd hS2 hcv
          go_wp2_with fail
          refine wp_region_canon rfl (fun _ => True) [(0, .p), (1, .p), (2, .p), (3, .p), (4, .p), (5, .p), (6, .p), (7, .p), (8, .t), (9, .p), (10, .p), (11, .p), (12, .p), (13, .t), (14, .e false), (15, .p), (16, .p)] (by kernel_rfl) ?_
          have hS0 : True := trivial
          rw [← HWD.out]
          (repeat ((first | (refine C_p (v := ?_) rfl rfl (fun w' => ?_) ?_; rotate_left; (go_simp; with_reducible rfl)) | (refine C_s (v := ?_) rfl rfl hS0 (fun w' hS => ?_) ?_; rotate_left; ((try dsimp only at hS); go_simp; with_reducible rfl)) | (refine C_t (v := ?_) rfl rfl ?_ ?_; rotate_left; (go_simp; with_reducible rfl)) | (refine C_po rfl rfl ?_) | (refine C_so rfl rfl hS0 ?_) | (refine C_to rfl rfl ?_)); simp only [Act.put, List.setIfInBounds_toArray, List.set_cons_zero, List.set_cons_succ]))
          clear l1 l2
          (refine C_e rfl rfl (fun K hK => ?_); go_simp)
          refine HCC.out.mono ?_
          rintro e w3 ⟨rfl, h3⟩
          (refine hK _ _ (fun h => by cases h) ?_; clear hK K; (try simp only [Act.put, List.setIfInBounds_toArray, List.set_cons_zero, List.set_cons_succ]))
          clear HCC HWD HS2
          by_cases hlv : cv < 0
          · (repeat ((first | (refine C_p (v := ?_) rfl rfl (fun w' => ?_) ?_; rotate_left; (go_simp; with_reducible rfl)) | (refine C_s (v := ?_) rfl rfl hS0 (fun w' hS => ?_) ?_; rotate_left; ((try dsimp only at hS); go_simp; with_reducible rfl)) | (refine C_t (v := ?_) rfl rfl ?_ ?_; rotate_left; (go_simp; with_reducible rfl)) | (refine C_po rfl rfl ?_) | (refine C_so rfl rfl hS0 ?_) | (refine C_to rfl rfl ?_)); simp only [Act.put, List.setIfInBounds_toArray, List.set_cons_zero, List.set_cons_succ]))
            refine C_nil ?_
            have hd := h3.p1.drew
            obtain ⟨wd2, hwd2⟩ : ∃ wd2, wd2 = w3.drew := ⟨_, rfl⟩
            rw [← hwd2] at hd
            have l1 := arow_ld hd (jp + 1) (by omega)
            have l2 := arow_ld hd jp (by omega)
            obtain ⟨w4, s1, h4⟩ := arow_st hd (jp + 1) (by omega) (f2 jp)
            obtain ⟨w5, s2, h5⟩ := arow_st h4 jp (by omega) (f2 (jp + 1))
            rw [swF_set, swF_comm] at h5
            have HWD := Lib.hid hwd2
            have H5 := Lib.hid h5
            clear hwd2 hd h3 h4 h5
            go_wp2_with fail
            refine wp_region_canon rfl (fun _ => True) [(0, .p), (1, .p), (2, .p), (3, .p), (4, .p), (5, .p), (6, .p), (7, .p), (8, .p), (9, .t), (10, .p), (11, .p), (12, .p), (13, .t), (14, .p), (15, .e false), (16, .p), (17, .e false)] (by kernel_rfl) ?_
            rw [← HWD.out]
            (repeat ((first | (refine C_p (v := ?_) rfl rfl (fun w' => ?_) ?_; rotate_left; (go_simp; with_reducible rfl)) | (refine C_s (v := ?_) rfl rfl hS0 (fun w' hS => ?_) ?_; rotate_left; ((try dsimp only at hS); go_simp; with_reducible rfl)) | (refine C_t (v := ?_) rfl rfl ?_ ?_; rotate_left; (go_simp; with_reducible rfl)) | (refine C_po rfl rfl ?_) | (refine C_so rfl rfl hS0 ?_) | (refine C_to rfl rfl ?_)); simp only [Act.put, List.setIfInBounds_toArray, List.set_cons_zero, List.set_cons_succ]))
            (refine C_e rfl rfl (fun K hK => ?_); go_simp)
            (refine hK _ _ (fun h => by cases h) ?_; clear hK K; (try simp only [Act.put]))
            (repeat ((first | (refine C_p (v := ?_) rfl rfl (fun w' => ?_) ?_; rotate_left; (go_simp; with_reducible rfl)) | (refine C_s (v := ?_) rfl rfl hS0 (fun w' hS => ?_) ?_; rotate_left; ((try dsimp only at hS); go_simp; with_reducible rfl)) | (refine C_t (v := ?_) rfl rfl ?_ ?_; rotate_left; (go_simp; with_reducible rfl)) | (refine C_po rfl rfl ?_) | (refine C_so rfl rfl hS0 ?_) | (refine C_to rfl rfl ?_)); simp only [Act.put, List.setIfInBounds_toArray, List.set_cons_zero, List.set_cons_succ]))
            (refine C_e rfl rfl (fun K hK => ?_); go_simp)
            (refine hK _ _ (fun h => by cases h) ?_; clear hK K; (try simp only [Act.put]))
            refine C_nil ?_
            clear l1 l2 s1 s2
            go_wp2
            go_roundw
            case rel =>
              refine ⟨jp, swF f2 (jp + 1) jp, by go_num, by omega, by omega, .step _ _ _ HSW2.out (by omega) (by omega) (by omega) (by omega), ?_, H5.out⟩
              exact HIN.out.step (by omega) (by omega) (by show c (f2 (jp + 1)) (f2 jp) < 0; rw [← HCV.out]; exact hlv)
            case measure => simp [intOf]
          · (repeat ((first | (refine C_p (v := ?_) rfl rfl (fun w' => ?_) ?_; rotate_left; (go_simp; with_reducible rfl)) | (refine C_s (v := ?_) rfl rfl hS0 (fun w' hS => ?_) ?_; rotate_left; ((try dsimp only at hS); go_simp; with_reducible rfl)) | (refine C_t (v := ?_) rfl rfl ?_ ?_; rotate_left; (go_simp; with_reducible rfl)) | (refine C_po rfl rfl ?_) | (refine C_so rfl rfl hS0 ?_) | (refine C_to rfl rfl ?_)); simp only [Act.put, List.setIfInBounds_toArray, List.set_cons_zero, List.set_cons_succ]))
            refine C_nil ?_
            have H3 := Lib.hid h3.p1
            clear h3
            go_wp2
            go_roundw
            case rel =>
              refine ⟨i + 1, f2, by go_num, by omega, by omega, HSW2.out, ?_, H3.out⟩
              rw [Nat.min_eq_left (by omega)]
              exact HIN.out.stop HT.out (by omega) hji (.inr (by show 0 ≤ c (f2 (jp + 1)) (f2 jp); rw [← HCV.out]; omega))
            case measure => simp [intOf]; omega
        · have hjaz : ¬ (a : Int) < (j : Int) := by omega
          have hjaz2 : decide ((j : Int) > (a : Int)) = false := decide_eq_false (by omega)
          go_wp2_with fail
          refine wp_region_canon rfl (fun _ => True) [(0, .p), (1, .p), (2, .p), (3, .p), (4, .p), (5, .p), (6, .p), (7, .p), (8, .t), (9, .p), (10, .p), (11, .p), (12, .p), (13, .t), (14, .e false), (15, .p), (16, .p)] (by kernel_rfl) ?_
          have hS0 : True := trivial
          (repeat ((first | (refine C_p (v := ?_) rfl rfl (fun w' => ?_) ?_; rotate_left; (go_simp; with_reducible rfl)) | (refine C_s (v := ?_) rfl rfl hS0 (fun w' hS => ?_) ?_; rotate_left; ((try dsimp only at hS); go_simp; with_reducible rfl)) | (refine C_t (v := ?_) rfl rfl ?_ ?_; rotate_left; (go_simp; with_reducible rfl)) | (refine C_po rfl rfl ?_) | (refine C_so rfl rfl hS0 ?_) | (refine C_to rfl rfl ?_)); simp only [Act.put, List.setIfInBounds_toArray, List.set_cons_zero, List.set_cons_succ]))
          (refine C_eo rfl rfl (fun h => by first | (cases h; done) | exact hS0) ?_; simp only [Act.put, List.setIfInBounds_toArray, List.set_cons_zero, List.set_cons_succ])
          (repeat ((first | (refine C_p (v := ?_) rfl rfl (fun w' => ?_) ?_; rotate_left; (go_simp; with_reducible rfl)) | (refine C_s (v := ?_) rfl rfl hS0 (fun w' hS => ?_) ?_; rotate_left; ((try dsimp only at hS); go_simp; with_reducible rfl)) | (refine C_t (v := ?_) rfl rfl ?_ ?_; rotate_left; (go_simp; with_reducible rfl)) | (refine C_po rfl rfl ?_) | (refine C_so rfl rfl hS0 ?_) | (refine C_to rfl rfl ?_)); simp only [Act.put, List.setIfInBounds_toArray, List.set_cons_zero, List.set_cons_succ]))
          refine C_nil ?_
          go_wp2
          go_roundw
          case rel =>
            refine ⟨i + 1, f2, by go_num, by omega, by omega, HSW2.out, ?_, HS2.out.drew⟩
            rw [Nat.min_eq_left (by omega)]
            exact HIN.out.stop HT.out haj hji (.inl (by omega))
          case measure => simp [intOf]; omega
    · have hltz : ¬ (i : Int) < (b : Int) := by omega
      go_wp2
      go_end0
      refine ⟨rfl, f1, HSW.out, ?_, HS.out⟩
      have := HSR.out
      rwa [Nat.min_eq_right (by omega)] at this
end Go.Proofs.YtodipneapffjdaaGreatDoor
/- slices.swapRangeCmpFunc, rotateCmpFunc at acts. -/
namespace Go.Proofs.YtodipneapffjdaaGreatDoor
open Go.RowKit PA
attribute [local go_sem ↓] sizeAct
theorem arow_swap {W w : World} {A : Assn} {g N : Nat} {f : Nat → Ac} {tl : List Value} (h : Sat W w (sep (arow g N f tl) A)) (p q : Nat) (hp : p < N) (hq : q < N) :
    ∃ w1 w2, Sem.run Tryz.prog (storeCells ⟨g, p * 19, none⟩ (f q).cells 0) w = .ok () w1 ∧ Sem.run Tryz.prog (storeCells ⟨g, q * 19, none⟩ (f p).cells 0) w1 = .ok () w2 ∧ Sat W w2 (sep (arow g N (swF f p q) tl) A) := by
  obtain ⟨w4, s1, h4⟩ := arow_st h p hp (f q)
  obtain ⟨w5, s2, h5⟩ := arow_st h4 q hq (f p)
  rw [swF_set, swF_comm] at h5
  exact ⟨w4, w5, s1, s2, h5⟩
set_option maxRecDepth 100000 in
set_option maxHeartbeats 4000000 in
theorem swapRange_spec {W w : World} {A : Assn} {g N : Nat} {f : Nat → Ac} {tl : List Value} (hN : N ≤ 65536) (cp : Nat) (fv : Value) (a b n : Nat) (ha : a + n ≤ N) (hb : b + n ≤ N) (h : Sat W w (sep (arow g N f tl) A)) :
    Calls Tryz.prog 102 #[.slice (some ⟨g, 0, none⟩) N cp, .int .i64 a, .int .i64 b, .int .i64 n, fv] w fun e w' => e = .returned (.tuple #[]) ∧ Sat W w' (sep (arow g N (srF f a b n) tl) A) := by
  have H := Lib.hid h
  clear h
  go_enter Tryz.func102, Tryz.ntmps102
  go_wp2
  go_loopw [10] (fun iv wr => ∃ i : Nat, iv = .int .i64 i ∧ i ≤ n ∧ Sat W wr (sep (arow g N (srF f a b i) tl) A)) (fun iv _ => n - (intOf iv).toNat)
  case atStart => exact ⟨0, rfl, by omega, H.out⟩
  case round =>
    obtain ⟨i, rfl, hi, hS⟩ := hrel
    by_cases hlt : i < n
    · have hltz : (i : Int) < (n : Int) := by omega
      obtain ⟨x, hx⟩ : ∃ x, x = a + i := ⟨_, rfl⟩
      obtain ⟨y, hy⟩ : ∃ y, y = b + i := ⟨_, rfl⟩
      have ew1 : IntKind.i64.wrap ((a : Int) + (i : Int)) = (x : Int) := by rw [hx, IntWalk.i64_in _ (by omega)]; omega
      have ew2 : IntKind.i64.wrap ((b : Int) + (i : Int)) = (y : Int) := by rw [hy, IntWalk.i64_in _ (by omega)]; omega
      have jx : (x : Int) < (N : Int) := by omega
      have jy : (y : Int) < (N : Int) := by omega
      have hd := hS.drew
      obtain ⟨wd, hwd⟩ : ∃ wd, wd = wr.drew := ⟨_, rfl⟩
      rw [← hwd] at hd
      have l1 := arow_ld hd x (by omega)
      have l2 := arow_ld hd y (by omega)
      obtain ⟨w4, w5, s1, s2, h5⟩ := arow_swap hd x y (by omega) (by omega)
      have HWD := Lib.hid hwd
      have H5 := Lib.hid h5
      have HX := Lib.hid (And.intro hx hy)
      clear hd hwd h5 hS hx hy
      go_wp2_with fail
      refine wp_region_canon rfl (fun _ => True) [(0, .p), (1, .p), (2, .p), (3, .p), (4, .p), (5, .p), (6, .p), (7, .p), (8, .p), (9, .p), (10, .p), (11, .p), (12, .p), (13, .t), (14, .p), (15, .p), (16, .p), (17, .p), (18, .p), (19, .t), (20, .p), (21, .e false), (22, .p), (23, .e false)] (by kernel_rfl) ?_
      have hS0 : True := trivial
      rw [← HWD.out]
      (repeat ((first | (refine C_p (v := ?_) rfl rfl (fun w' => ?_) ?_; rotate_left; (go_simp; with_reducible rfl)) | (refine C_s (v := ?_) rfl rfl hS0 (fun w' hS => ?_) ?_; rotate_left; ((try dsimp only at hS); go_simp; with_reducible rfl)) | (refine C_t (v := ?_) rfl rfl ?_ ?_; rotate_left; (go_simp; with_reducible rfl)) | (refine C_po rfl rfl ?_) | (refine C_so rfl rfl hS0 ?_) | (refine C_to rfl rfl ?_)); simp only [Act.put, List.setIfInBounds_toArray, List.set_cons_zero, List.set_cons_succ]))
      (refine C_e rfl rfl (fun K hK => ?_); go_simp)
      (refine hK _ _ (fun h => by cases h) ?_; clear hK K; (try simp only [Act.put]))
      (repeat ((first | (refine C_p (v := ?_) rfl rfl (fun w' => ?_) ?_; rotate_left; (go_simp; with_reducible rfl)) | (refine C_s (v := ?_) rfl rfl hS0 (fun w' hS => ?_) ?_; rotate_left; ((try dsimp only at hS); go_simp; with_reducible rfl)) | (refine C_t (v := ?_) rfl rfl ?_ ?_; rotate_left; (go_simp; with_reducible rfl)) | (refine C_po rfl rfl ?_) | (refine C_so rfl rfl hS0 ?_) | (refine C_to rfl rfl ?_)); simp only [Act.put, List.setIfInBounds_toArray, List.set_cons_zero, List.set_cons_succ]))
      (refine C_e rfl rfl (fun K hK => ?_); go_simp)
      (refine hK _ _ (fun h => by cases h) ?_; clear hK K; (try simp only [Act.put]))
      refine C_nil ?_
      clear l1 l2 s1 s2 ew1 ew2
      go_wp2
      go_roundw
      case rel =>
        refine ⟨i + 1, by go_num, by omega, ?_⟩
        have := H5.out
        rw [HX.out.1, HX.out.2] at this
        exact this
      case measure => simp [intOf]; omega
    · obtain rfl : i = n := by omega
      go_wp2
      go_end0
      exact ⟨rfl, hS⟩
set_option maxRecDepth 100000 in
set_option maxHeartbeats 4000000 in
theorem rotate_spec {W w : World} {A : Assn} {g N : Nat} {f : Nat → Ac} {tl : List Value} (hN : N ≤ 65536) (cp : Nat) (fv : Value) (a m b : Nat) (h1 : a < m) (h2 : m < b) (h3 : b ≤ N) (h : Sat W w (sep (arow g N f tl) A)) :
    Calls Tryz.prog 77 #[.slice (some ⟨g, 0, none⟩) N cp, .int .i64 a, .int .i64 m, .int .i64 b, fv] w fun e w' => e = .returned (.tuple #[]) ∧ ∃ f', Rot f a m b f' ∧ Sw a b f f' ∧ Sat W w' (sep (arow g N f' tl) A) := by
  have H := Lib.hid h
  clear h
  have ei : (m : Int) - (a : Int) = ((m - a : Nat) : Int) := by omega
  have ej : (b : Int) - (m : Int) = ((b - m : Nat) : Int) := by omega
  have wi : IntKind.i64.wrap (((m - a : Nat) : Int)) = ((m - a : Nat) : Int) := IntWalk.i64_in _ (by omega)
  have wj : IntKind.i64.wrap (((b - m : Nat) : Int)) = ((b - m : Nat) : Int) := IntWalk.i64_in _ (by omega)
  go_enter Tryz.func77, Tryz.ntmps77
  go_wp2
  go_loopw [10, 11] (fun iv jv wr => ∃ (i j : Nat) (f' : Nat → Ac), iv = .int .i64 i ∧ jv = .int .i64 j ∧ 0 < i ∧ 0 < j ∧ RotI f a m b i j f' ∧ Sat W wr (sep (arow g N f' tl) A)) (fun iv jv _ => (intOf iv).toNat + (intOf jv).toNat)
  case atStart => exact ⟨m - a, b - m, f, by go_num, by go_num, by omega, by omega, .start f a m b (by omega) (by omega), H.out⟩
  case round =>
    obtain ⟨i, j, f1, rfl, rfl, hi, hj, hR, hS⟩ := hrel
    have hi2 := hR.hi
    have hj2 := hR.hj
    have HR := Lib.hid hR
    have HS := Lib.hid hS
    clear hR hS ei ej wi wj
    rcases Nat.lt_trichotomy i j with c1 | c1 | c1
    · have bz : ((i : Int) != (j : Int)) = true := by simp; omega
      have cz : ¬ (j : Int) < (i : Int) := by omega
      have hsr := swapRange_spec (f := f1) (tl := tl) (W := W) (A := A) (g := g) hN cp fv (m - i) (m + j - i) i (by omega) (by omega) HS.out
      have hst := HR.out.small (by omega) (by omega) c1
      obtain ⟨x, hx⟩ : ∃ x, x = m - i := ⟨_, rfl⟩
      obtain ⟨y, hy⟩ : ∃ y, y = m + j - i := ⟨_, rfl⟩
      obtain ⟨z, hz⟩ : ∃ z, z = j - i := ⟨_, rfl⟩
      rw [← hx, ← hy] at hsr hst
      rw [← hz] at hst
      have ex : (m : Int) - (i : Int) = (x : Int) := by omega
      have ey : (m : Int) + (j : Int) - (i : Int) = (y : Int) := by omega
      have ez : (j : Int) - (i : Int) = (z : Int) := by omega
      have HSR := Lib.hid hsr
      have HST := Lib.hid hst
      have HZ := Lib.hid hz
      clear hsr hst hx hy hz HS HR
      go_wp2_with fail
      refine HSR.out.mono ?_
      rintro e w3 ⟨rfl, h3⟩
      clear HSR ex ey
      go_wp2_with fail
      go_roundw
      case rel => exact ⟨i, z, _, rfl, rfl, hi, by have := HZ.out; omega, HST.out, h3⟩
      case measure => have := HZ.out; simp [intOf]; omega
    · subst c1
      have hsr := swapRange_spec (f := f1) (tl := tl) (W := W) (A := A) (g := g) hN cp fv (m - i) m i (by omega) (by omega) HS.out
      have hst := HR.out.done (by omega) (by omega)
      obtain ⟨x, hx⟩ : ∃ x, x = m - i := ⟨_, rfl⟩
      rw [← hx] at hsr hst
      have ex : (m : Int) - (i : Int) = (x : Int) := by omega
      have HSR := Lib.hid hsr
      have HST := Lib.hid hst
      clear hsr hst hx HS HR
      go_wp2_with fail
      refine HSR.out.mono ?_
      rintro e w3 ⟨rfl, h3⟩
      clear HSR ex
      go_wp2_with fail
      go_end0
      exact ⟨rfl, _, HST.out.1, HST.out.2, h3⟩
    · have bz : ((i : Int) != (j : Int)) = true := by simp; omega
      have cz : (j : Int) < (i : Int) := by omega
      have hsr := swapRange_spec (f := f1) (tl := tl) (W := W) (A := A) (g := g) hN cp fv (m - i) m j (by omega) (by omega) HS.out
      have hst := HR.out.big (by omega) (by omega) c1
      obtain ⟨x, hx⟩ : ∃ x, x = m - i := ⟨_, rfl⟩
      obtain ⟨z, hz⟩ : ∃ z, z = i - j := ⟨_, rfl⟩
      rw [← hx] at hsr hst
      rw [← hz] at hst
      have ex : (m : Int) - (i : Int) = (x : Int) := by omega
      have ez : (i : Int) - (j : Int) = (z : Int) := by omega
      have HSR := Lib.hid hsr
      have HST := Lib.hid hst
      have HZ := Lib.hid hz
      clear hsr hst hx hz HS HR
      go_wp2_with fail
      refine HSR.out.mono ?_
      rintro e w3 ⟨rfl, h3⟩
      clear HSR ex
      go_wp2_with fail
      go_roundw
      case rel => exact ⟨z, j, _, rfl, rfl, by have := HZ.out; omega, hj, HST.out, h3⟩
      case measure => have := HZ.out; simp [intOf]; omega
end Go.Proofs.YtodipneapffjdaaGreatDoor
/- Stable sorting in plain, further: one element moved up or down; binary searches. No program in sight. -/
namespace PA
section
variable {α : Type} {c : α → α → Int}
theorem Rot.up0 (f : Nat → α) (a : Nat) : Rot f a (a + 1) (a + 1) f := ⟨fun t ht => by omega, fun t ht => by congr 1; omega, fun k _ => rfl⟩
theorem Rot.up {f g : Nat → α} {a k : Nat} (h : Rot f a (a + 1) (k + 1) g) (hk : a ≤ k) : Rot f a (a + 1) (k + 2) (swF g k (k + 1)) := by
  obtain ⟨g1, g2, g3⟩ := h
  have e2 : g k = f a := by have := g2 0 (by omega); rw [show a + (k + 1 - (a + 1)) + 0 = k by omega] at this; exact this
  refine ⟨fun t ht => ?_, fun t ht => ?_, fun x hx => ?_⟩
  · unfold swF
    by_cases e : a + t = k
    · rw [if_pos e, g3 (k + 1) (.inr (Nat.le_refl _))]; congr 1; omega
    · rw [if_neg e, if_neg (by omega)]; exact g1 t (by omega)
  · unfold swF
    rw [if_neg (by omega), if_pos (by omega), e2]; congr 1; omega
  · unfold swF
    rw [if_neg (by omega), if_neg (by omega)]; exact g3 x (by omega)
theorem Rot.down0 (f : Nat → α) (m : Nat) : Rot f m m (m + 1) f := ⟨fun t ht => rfl, fun t ht => by omega, fun k _ => rfl⟩
theorem Rot.down {f g : Nat → α} {m k : Nat} (h : Rot f k m (m + 1) g) (h0 : 0 < k) (hk : k ≤ m) : Rot f (k - 1) m (m + 1) (swF g k (k - 1)) := by
  obtain ⟨g1, g2, g3⟩ := h
  have e2 : g k = f m := g1 0 (by omega)
  refine ⟨fun t ht => ?_, fun t ht => ?_, fun x hx => ?_⟩
  · unfold swF
    rw [if_neg (by omega), if_pos (by omega), e2]; congr 1; omega
  · unfold swF
    by_cases e : k - 1 + (m + 1 - m) + t = k
    · rw [if_pos e, g3 (k - 1) (.inl (by omega))]; congr 1; omega
    · rw [if_neg e, if_neg (by omega)]
      have := g2 (t - 1) (by omega)
      rw [show k + (m + 1 - m) + (t - 1) = k - 1 + (m + 1 - m) + t by omega] at this
      rw [this]; congr 1; omega
  · unfold swF
    rw [if_neg (by omega), if_neg (by omega)]; exact g3 x (by omega)
theorem Rot.none1 (f : Nat → α) (m b : Nat) : Rot f m m b f := ⟨fun t _ => rfl, fun t ht => by omega, fun k _ => rfl⟩
theorem Rot.none2 (f : Nat → α) (a m : Nat) : Rot f a m m f := ⟨fun t ht => by omega, fun t _ => by congr 1; omega, fun k _ => rfl⟩
/-- A binary search for the place of x: below i nothing is above x, from j on nothing is below it. -/
structure Bs (c : α → α → Int) (lo hi i j : Nat) (f : Nat → α) (x : α) : Prop where
  h1 : lo ≤ i
  h2 : i ≤ j
  h3 : j ≤ hi
  lo : ∀ k, lo ≤ k → k < i → c (f k) x ≤ 0
  up : ∀ k, j ≤ k → k < hi → 0 ≤ c (f k) x
theorem Bs.start {lo hi : Nat} (h : lo ≤ hi) (f : Nat → α) (x : α) : Bs c lo hi lo hi f x := ⟨Nat.le_refl _, h, Nat.le_refl _, fun k p1 p2 => by omega, fun k p1 p2 => by omega⟩
theorem Bs.right {lo hi i j : Nat} {f : Nat → α} {x : α} (hT : Total c) (hs : SrtF c lo hi f) (h : Bs c lo hi i j f x) {m : Nat} (h1 : i ≤ m) (h2 : m < j) (hm : c (f m) x ≤ 0) : Bs c lo hi (m + 1) j f x := by
  refine ⟨by have := h.h1; omega, by omega, h.h3, fun k p1 p2 => ?_, h.up⟩
  rcases Nat.lt_or_ge k m with e | e
  · exact hT.trans _ _ _ (hs k m p1 e (by have := h.h3; omega)) hm
  · obtain rfl : k = m := by omega
    exact hm
theorem Bs.left {lo hi i j : Nat} {f : Nat → α} {x : α} (hT : Total c) (hs : SrtF c lo hi f) (h : Bs c lo hi i j f x) {m : Nat} (h1 : i ≤ m) (h2 : m < j) (hm : 0 ≤ c (f m) x) : Bs c lo hi i m f x := by
  refine ⟨h.h1, h1, by have := h.h3; omega, h.lo, fun k p1 p2 => ?_⟩
  rcases Nat.lt_or_ge m k with e | e
  · have h3 := hs m k (by have := h.h1; omega) e p2
    have h4 := hT.flip (f m) x
    have h5 := hT.trans _ _ _ (show c x (f m) ≤ 0 by omega) h3
    have h6 := hT.flip (f k) x
    omega
  · obtain rfl : k = m := by omega
    exact hm
end
end PA
