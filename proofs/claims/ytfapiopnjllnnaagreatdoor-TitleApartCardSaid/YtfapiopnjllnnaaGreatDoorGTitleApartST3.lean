/- Package acts: Compare of acts with different days or ticks; cmp.Compare, cmp.Or. -/
import Derived.Test.YtfapiopnjllnnaaGreatDoorGTitleApartST2
namespace Go.Proofs.YtfapiopnjllnnaaGreatDoor
open Go.RowKit PA
def cmpI (a b : Int) : Int := if a < b then -1 else if b < a then 1 else 0
theorem cmpInt_spec (a b : Int) (w : World) : Calls Tryz.prog 63 #[.int .i64 a, .int .i64 b] w fun e w' => e = .returned (.int .i64 (cmpI a b)) ∧ w = w' := by
  obtain ⟨r, hr⟩ : ∃ r, r = cmpI a b := ⟨_, rfl⟩
  rw [← hr]
  unfold cmpI at hr
  have HR := Lib.hid hr
  clear hr
  by_cases c1 : a < b
  · go_enter Tryz.func63, Tryz.ntmps63
    go_wp2
    go_ret
    exact ⟨by rw [HR.out, if_pos (by omega)]; rfl, rfl⟩
  · by_cases c2 : b < a
    · go_enter Tryz.func63, Tryz.ntmps63
      go_wp2
      go_ret
      exact ⟨by rw [HR.out, if_neg (by omega), if_pos (by omega)]; rfl, rfl⟩
    · go_enter Tryz.func63, Tryz.ntmps63
      go_wp2
      go_ret
      exact ⟨by rw [HR.out, if_neg (by omega), if_neg (by omega)]; rfl, rfl⟩
theorem cmpOr_spec {W w : World} {A : Assn} (a b : Int) (C : Nat) (h : Sat W w (sep (blk C (.cells #[.int .i64 a, .int .i64 b] 3 (0, 0))) A)) :
    Calls Tryz.prog 62 #[.slice (some ⟨C, 0, none⟩) 2 2] w fun e w' => e = .returned (.int .i64 (if a ≠ 0 then a else b)) ∧ Sat W w' A := by
  obtain ⟨r, hr⟩ : ∃ r, r = if a ≠ 0 then a else b := ⟨_, rfl⟩
  rw [← hr]
  have HR := Lib.hid hr
  clear hr
  obtain ⟨c0, c1, -, -⟩ := rt2 h
  have h' := h.forget
  clear h
  go_enter Tryz.func62, Tryz.ntmps62
  go_wp2
  go_loopw [8] (fun kv wr => ∃ k : Nat, kv = .int .i64 k ∧ k ≤ 2 ∧ (1 ≤ k → a = 0) ∧ (2 ≤ k → b = 0) ∧ wr = w) (fun kv _ => 2 - (intOf kv).toNat)
  case atStart => exact ⟨0, rfl, by omega, by omega, by omega, rfl⟩
  case round =>
    obtain ⟨k, rfl, hk, q1, q2, rfl⟩ := hrel
    have Q1 := Lib.hid q1
    have Q2 := Lib.hid q2
    clear q1 q2
    obtain rfl | rfl | rfl : k = 0 ∨ k = 1 ∨ k = 2 := by omega
    · by_cases hz : a = 0
      · subst hz
        go_wp2
        go_roundw
        case rel => exact ⟨1, rfl, by omega, fun _ => (by first | rfl | trivial), by omega, by first | rfl | trivial⟩
        case measure => simp [intOf]
      · have hz2 : (a != 0) = true := by simp [hz]
        go_wp2
        go_ret
        exact ⟨by rw [HR.out, if_pos hz]; rfl, h'⟩
    · by_cases hz : b = 0
      · subst hz
        go_wp2
        go_roundw
        case rel => exact ⟨2, rfl, by omega, fun _ => Q1.out (by omega), fun _ => (by first | rfl | trivial), by first | rfl | trivial⟩
        case measure => simp [intOf]
      · have hz2 : (b != 0) = true := by simp [hz]
        go_wp2
        go_ret
        exact ⟨by rw [HR.out, if_neg (by rw [Q1.out (by omega)]; simp)]; rfl, h'⟩
    · go_wp2
      go_ret
      exact ⟨by rw [HR.out, if_neg (by rw [Q1.out (by omega)]; simp), Q2.out (by omega)]; rfl, h'⟩
theorem cmpK_or (x y : Ac) : (if cmpI x.d y.d ≠ 0 then cmpI x.d y.d else cmpI x.n y.n) = cmpK x y := by
  unfold cmpI cmpK
  repeat' split
  all_goals first | rfl | omega | contradiction | skip
theorem cmpK_nz {x y : Ac} (h : KeyNe x y) : cmpK x y ≠ 0 := by
  unfold cmpK
  unfold KeyNe at h
  repeat' split
  all_goals omega
set_option maxRecDepth 100000 in
set_option maxHeartbeats 4000000 in
theorem compareK_spec {W w : World} {A : Assn} (x y : Ac) (hne : KeyNe x y) (h : Sat W w A) :
    Calls Tryz.prog 40 #[.agg x.cells.toArray, .agg y.cells.toArray] w fun e w' => e = .returned (.int .i64 (cmpK x y)) ∧ Sat W w' A := by
  obtain ⟨r, hr⟩ : ∃ r, r = cmpK x y := ⟨_, rfl⟩
  have hnz : r ≠ 0 := by rw [hr]; exact cmpK_nz hne
  rw [← hr]
  obtain ⟨I, hk⟩ := h.know
  obtain ⟨J, hle, hJ, h1⟩ := (hk.alloc (.cells x.cells.toArray 57)).settle.learn
  obtain ⟨J2, hle2, hJ2, h2⟩ := (h1.alloc (.cells y.cells.toArray 57)).settle.learn
  rw [World.size_alloc] at hJ2
  obtain ⟨B, hB⟩ : ∃ B, B = w.heap.size := ⟨_, rfl⟩
  obtain ⟨w1, hw1⟩ : ∃ w1, w1 = (w.alloc (.cells x.cells.toArray 57)).alloc (.cells y.cells.toArray 57) := ⟨_, rfl⟩
  rw [← hB] at hJ hJ2
  rw [← hw1] at h2
  have HX : Hid (∀ w', Ext J2 w' → (w'.cell? ⟨B, 1, none⟩ = some (.int .i64 x.d) ∧ w'.cell? ⟨B + 1, 1, none⟩ = some (.int .i64 y.d)) ∧ w'.cell? ⟨B, 2, none⟩ = some (.int .i64 x.n) ∧ w'.cell? ⟨B + 1, 2, none⟩ = some (.int .i64 y.n)) :=
    Lib.hid fun w' he => ⟨⟨act_cell (hle2 _ _ hJ) he 1, act_cell hJ2 he 1⟩, act_cell (hle2 _ _ hJ) he 2, act_cell hJ2 he 2⟩
  have HR : Hid ((if cmpI x.d y.d ≠ 0 then cmpI x.d y.d else cmpI x.n y.n) = r) := Lib.hid (by rw [cmpK_or, hr])
  obtain ⟨a1, ha1⟩ : ∃ a1, a1 = cmpI x.d y.d := ⟨_, rfl⟩
  obtain ⟨a2, ha2⟩ : ∃ a2, a2 = cmpI x.n y.n := ⟨_, rfl⟩
  have hc1 := cmpInt_spec x.d y.d
  have hc2 := cmpInt_spec x.n y.n
  rw [← ha1] at hc1
  rw [← ha2] at hc2
  rw [← ha1, ← ha2] at HR
  have HC1 := Lib.hid hc1
  have HC2 := Lib.hid hc2
  have HNZ := Lib.hid hnz
  have HB := Lib.hid hB
  have HW1 := Lib.hid hw1
  have hd := h2.drew
  obtain ⟨wd, hwd⟩ : ∃ wd, wd = w1.drew := ⟨_, rfl⟩
  rw [← hwd] at hd
  have hcl := HX.out wd hd.ext
  obtain ⟨⟨k0, k1⟩, hS0⟩ := hcl
  have HWD := Lib.hid hwd
  have HD := Lib.hid hd
  clear hB hw1 hle hle2 hJ hJ2 hk h h1 h2 hr hne hnz ha1 ha2 hc1 hc2 hwd hd
  go_enter Tryz.func40, Tryz.ntmps40
  go_upto_region 1 with (fail)
  simp only [World.size_alloc, ← HB.out, ← HW1.out]
  refine wp_region_canon rfl (fun w' => w'.cell? ⟨B, 2, none⟩ = some (.int .i64 x.n) ∧ w'.cell? ⟨B + 1, 2, none⟩ = some (.int .i64 y.n)) [(0, .p), (1, .t), (2, .p), (3, .t), (5, .p), (6, .s), (7, .p), (8, .s), (4, .e true), (9, .e false), (10, .e false), (11, .e false), (12, .p)] (by kernel_rfl) ?_
  rw [← HWD.out]
  (repeat ((first | (refine C_p (v := ?_) rfl rfl (fun w' => ?_) ?_; rotate_left; (go_simp; with_reducible rfl)) | (refine C_s (v := ?_) rfl rfl hS0 (fun w' hS => ?_) ?_; rotate_left; ((try dsimp only at hS); go_simp; with_reducible rfl)) | (refine C_t (v := ?_) rfl rfl ?_ ?_; rotate_left; (go_simp; with_reducible rfl)) | (refine C_po rfl rfl ?_) | (refine C_so rfl rfl hS0 ?_) | (refine C_to rfl rfl ?_)); simp only [Act.put, List.setIfInBounds_toArray, List.set_cons_zero, List.set_cons_succ]))
  (refine C_e rfl rfl (fun K hK => ?_); go_simp)
  refine (HC1.out wd).mono ?_
  rintro e w' ⟨rfl, rfl⟩
  (refine hK _ _ (fun _ => hS0) ?_; clear hK K; (try simp only [Act.put, List.setIfInBounds_toArray, List.set_cons_zero, List.set_cons_succ]))
  clear k0 k1 hS0
  (refine C_e rfl rfl (fun K hK => ?_); go_simp)
  refine (HC2.out wd).mono ?_
  rintro e w' ⟨rfl, rfl⟩
  (refine hK _ _ (fun h => by cases h) ?_; clear hK K; (try simp only [Act.put, List.setIfInBounds_toArray, List.set_cons_zero, List.set_cons_succ]))
  (refine C_e rfl rfl (fun K hK => ?_); go_simp)
  (refine hK _ _ (fun h => by cases h) ?_; clear hK K; (try simp only [Act.put, List.setIfInBounds_toArray, List.set_cons_zero, List.set_cons_succ]))
  (refine C_e rfl rfl (fun K hK => ?_); go_simp)
  refine (cmpOr_spec a1 a2 _ (HD.out.alloc (.cells #[.int .i64 a1, .int .i64 a2] 3))).mono ?_
  rintro e w3 ⟨rfl, h3⟩
  rw [HR.out]
  (refine hK _ _ (fun h => by cases h) ?_; clear hK K; (try simp only [Act.put, List.setIfInBounds_toArray, List.set_cons_zero, List.set_cons_succ]))
  (repeat ((first | (refine C_p (v := ?_) rfl rfl (fun w' => ?_) ?_; rotate_left; (go_simp; with_reducible rfl)) | (refine C_s (v := ?_) rfl rfl hS0 (fun w' hS => ?_) ?_; rotate_left; ((try dsimp only at hS); go_simp; with_reducible rfl)) | (refine C_t (v := ?_) rfl rfl ?_ ?_; rotate_left; (go_simp; with_reducible rfl)) | (refine C_po rfl rfl ?_) | (refine C_so rfl rfl hS0 ?_) | (refine C_to rfl rfl ?_)); simp only [Act.put, List.setIfInBounds_toArray, List.set_cons_zero, List.set_cons_succ]))
  refine C_nil ?_
  have hz : (r != 0) = true := by simp [HNZ.out]
  go_wp2
  go_ret
  exact ⟨rfl, h3.drop⟩
end Go.Proofs.YtfapiopnjllnnaaGreatDoor
