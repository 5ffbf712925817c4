/- The disk and its model side by side: same. -/
import Derived.Test.YtbniekblkbdidaaRb
import Derived.Test.YtbniekblkbdidaaSi
namespace Go.Proofs.Ytbniekblkbdidaa
open Go.RowKit PA
theorem isRD_off {W w : World} {A : Assn} {q : Nat} {s : DSt} (h : Sat W w (sep (isRD q s) A)) : w.cell? ⟨q, 3, none⟩ = some (.bool s.off) := by
  obtain ⟨B, F, V, -, h3⟩ := isRD_open h
  exact h3.cell 3
set_option maxRecDepth 100000 in
set_option maxHeartbeats 8000000 in
theorem same29_spec {W w : World} {A : Assn} (p q : Nat) (s : DSt) (h : Sat W w (sep (isDisk p s) (sep (isRD q s) A))) :
    Calls Try.prog 26 #[.pointer (some ⟨p, 0, none⟩), .pointer (some ⟨q, 0, none⟩)] w fun e w' => e = .returned (.bool true) ∧ Sat W w' (sep (isDisk p s) (sep (isRD q s) A)) := by
  have hS0 := isRD_off h.drew.p1
  have HU := Lib.hid (dused_spec p s h.drew)
  obtain ⟨u, hu⟩ : ∃ u, u = s.used := ⟨_, rfl⟩
  obtain ⟨off, hoff⟩ : ∃ off, off = s.off := ⟨_, rfl⟩
  rw [← hu] at HU
  rw [← hoff] at hS0
  have HUU := Lib.hid (And.intro hu hoff)
  clear h hu hoff
  go_enter Try.func26, Try.ntmps26
  go_wp2_with fail
  refine wp_region_canon rfl (fun w' => w'.cell? ⟨q, 3, none⟩ = some (.bool off)) [(0, .p), (2, .p), (1, .e true), (3, .e true), (4, .p), (5, .p), (6, .p), (8, .p), (9, .p), (10, .p), (11, .s), (7, .e true), (12, .p), (13, .p), (14, .p), (15, .p), (17, .p), (16, .e false), (18, .e false), (19, .e false), (20, .p), (21, .p)] (by kernel_rfl) ?_
  (repeat (first | (refine C_p (v := ?_) rfl rfl (fun w' => ?_) ?_; rotate_left; (go_simp; with_reducible rfl); simp only [Act.put, List.setIfInBounds_toArray, List.set_cons_zero, List.set_cons_succ]) | (refine C_s (v := ?_) rfl rfl hS0 (fun w' hS => ?_) ?_; rotate_left; ((try dsimp only at hS); go_simp; with_reducible rfl); simp only [Act.put, List.setIfInBounds_toArray, List.set_cons_zero, List.set_cons_succ]) | (refine C_t (v := ?_) rfl rfl ?_ ?_; rotate_left; (go_simp; with_reducible rfl); simp only [Act.put, List.setIfInBounds_toArray, List.set_cons_zero, List.set_cons_succ]) | (refine C_po rfl rfl ?_; simp only [Act.put, List.setIfInBounds_toArray, List.set_cons_zero, List.set_cons_succ]) | (refine C_so rfl rfl hS0 ?_; simp only [Act.put, List.setIfInBounds_toArray, List.set_cons_zero, List.set_cons_succ]) | (refine C_to rfl rfl ?_; simp only [Act.put, List.setIfInBounds_toArray, List.set_cons_zero, List.set_cons_succ])))
  (refine C_e rfl rfl (fun K hK => ?_); go_simp)
  refine HU.out.mono ?_
  rintro e w2 ⟨rfl, h2⟩
  have hS0' := isRD_off h2.p1
  rw [← HUU.out.2] at hS0'
  have HRU := Lib.hid (rdused_spec q s h2.p1)
  rw [← HUU.out.1] at HRU
  clear HU hS0 h2
  have hS0 := hS0'
  (refine hK _ _ (fun _ => hS0) ?_; clear hK K; (try simp only [Act.put, List.setIfInBounds_toArray, List.set_cons_zero, List.set_cons_succ]))
  (repeat (first | (refine C_p (v := ?_) rfl rfl (fun w' => ?_) ?_; rotate_left; (go_simp; with_reducible rfl); simp only [Act.put, List.setIfInBounds_toArray, List.set_cons_zero, List.set_cons_succ]) | (refine C_s (v := ?_) rfl rfl hS0 (fun w' hS => ?_) ?_; rotate_left; ((try dsimp only at hS); go_simp; with_reducible rfl); simp only [Act.put, List.setIfInBounds_toArray, List.set_cons_zero, List.set_cons_succ]) | (refine C_t (v := ?_) rfl rfl ?_ ?_; rotate_left; (go_simp; with_reducible rfl); simp only [Act.put, List.setIfInBounds_toArray, List.set_cons_zero, List.set_cons_succ]) | (refine C_po rfl rfl ?_; simp only [Act.put, List.setIfInBounds_toArray, List.set_cons_zero, List.set_cons_succ]) | (refine C_so rfl rfl hS0 ?_; simp only [Act.put, List.setIfInBounds_toArray, List.set_cons_zero, List.set_cons_succ]) | (refine C_to rfl rfl ?_; simp only [Act.put, List.setIfInBounds_toArray, List.set_cons_zero, List.set_cons_succ])))
  (refine C_e rfl rfl (fun K hK => ?_); go_simp)
  refine HRU.out.mono ?_
  rintro e w3 ⟨rfl, h3⟩
  have hS0'' := isRD_off h3
  rw [← HUU.out.2] at hS0''
  have HON := Lib.hid (don_spec p s h3.p1)
  obtain ⟨on, hon⟩ : ∃ on, on = !off := ⟨_, rfl⟩
  rw [← HUU.out.2, ← hon] at HON
  have hb : (on == off) = false := by rw [hon]; cases off <;> rfl
  have HB0 := Lib.hid hb
  clear hon hb
  have H3 := Lib.hid h3.p1
  clear HRU hS0 hS0' h3
  have hS0 := hS0''
  (refine hK _ _ (fun _ => hS0) ?_; clear hK K; (try simp only [Act.put, List.setIfInBounds_toArray, List.set_cons_zero, List.set_cons_succ]))
  (repeat (first | (refine C_p (v := ?_) rfl rfl (fun w' => ?_) ?_; rotate_left; (go_simp; with_reducible rfl); simp only [Act.put, List.setIfInBounds_toArray, List.set_cons_zero, List.set_cons_succ]) | (refine C_s (v := ?_) rfl rfl hS0 (fun w' hS => ?_) ?_; rotate_left; ((try dsimp only at hS); go_simp; with_reducible rfl); simp only [Act.put, List.setIfInBounds_toArray, List.set_cons_zero, List.set_cons_succ]) | (refine C_t (v := ?_) rfl rfl ?_ ?_; rotate_left; (go_simp; with_reducible rfl); simp only [Act.put, List.setIfInBounds_toArray, List.set_cons_zero, List.set_cons_succ]) | (refine C_po rfl rfl ?_; simp only [Act.put, List.setIfInBounds_toArray, List.set_cons_zero, List.set_cons_succ]) | (refine C_so rfl rfl hS0 ?_; simp only [Act.put, List.setIfInBounds_toArray, List.set_cons_zero, List.set_cons_succ]) | (refine C_to rfl rfl ?_; simp only [Act.put, List.setIfInBounds_toArray, List.set_cons_zero, List.set_cons_succ])))
  (refine C_e rfl rfl (fun K hK => ?_); go_simp)
  refine HON.out.mono ?_
  rintro e w4 ⟨rfl, rfl⟩
  have hb := HB0.out
  have HFI := Lib.hid (dfiles_spec p s H3.out)
  obtain ⟨ks, hks⟩ : ∃ ks, ks = (filesD s.fs).map fun j : Nat => (j : Int) := ⟨_, rfl⟩
  obtain ⟨nk, hnk⟩ : ∃ nk, nk = (filesD s.fs).length := ⟨_, rfl⟩
  have hvs : (filesD s.fs).map (fun j : Nat => iv j) = ks.map iv := by rw [hks, List.map_map]; rfl
  have hkl : nk = ks.length := by rw [hnk, hks, List.length_map]
  rw [hvs, ← hnk] at HFI
  have HK := Lib.hid (And.intro hvs (And.intro hnk hkl))
  clear HON H3 hvs hnk hkl hks
  (refine hK _ _ (fun _ => hS0) ?_; clear hK K; (try simp only [Act.put, List.setIfInBounds_toArray, List.set_cons_zero, List.set_cons_succ]))
  (repeat (first | (refine C_p (v := ?_) rfl rfl (fun w' => ?_) ?_; rotate_left; (go_simp; with_reducible rfl); simp only [Act.put, List.setIfInBounds_toArray, List.set_cons_zero, List.set_cons_succ]) | (refine C_s (v := ?_) rfl rfl hS0 (fun w' hS => ?_) ?_; rotate_left; ((try dsimp only at hS); go_simp; with_reducible rfl); simp only [Act.put, List.setIfInBounds_toArray, List.set_cons_zero, List.set_cons_succ]) | (refine C_t (v := ?_) rfl rfl ?_ ?_; rotate_left; (go_simp; with_reducible rfl); simp only [Act.put, List.setIfInBounds_toArray, List.set_cons_zero, List.set_cons_succ]) | (refine C_po rfl rfl ?_; simp only [Act.put, List.setIfInBounds_toArray, List.set_cons_zero, List.set_cons_succ]) | (refine C_so rfl rfl hS0 ?_; simp only [Act.put, List.setIfInBounds_toArray, List.set_cons_zero, List.set_cons_succ]) | (refine C_to rfl rfl ?_; simp only [Act.put, List.setIfInBounds_toArray, List.set_cons_zero, List.set_cons_succ])))
  (refine C_e rfl rfl (fun K hK => ?_); go_simp)
  refine HFI.out.mono ?_
  rintro e w5 ⟨a5, c5, rfl, h5⟩
  have HRF := Lib.hid (rdfiles_spec q s h5.p2)
  rw [HK.out.1, ← HK.out.2.1] at HRF
  clear HFI h5 hS0 hS0''
  (refine hK _ _ (fun h => by cases h) ?_; clear hK K; (try simp only [Act.put, List.setIfInBounds_toArray, List.set_cons_zero, List.set_cons_succ]))
  (repeat (first | (refine C_p (v := ?_) rfl rfl (fun w' => ?_) ?_; rotate_left; (go_simp; with_reducible rfl); simp only [Act.put, List.setIfInBounds_toArray, List.set_cons_zero, List.set_cons_succ]) | (refine C_s (v := ?_) rfl rfl hS0 (fun w' hS => ?_) ?_; rotate_left; ((try dsimp only at hS); go_simp; with_reducible rfl); simp only [Act.put, List.setIfInBounds_toArray, List.set_cons_zero, List.set_cons_succ]) | (refine C_t (v := ?_) rfl rfl ?_ ?_; rotate_left; (go_simp; with_reducible rfl); simp only [Act.put, List.setIfInBounds_toArray, List.set_cons_zero, List.set_cons_succ]) | (refine C_po rfl rfl ?_; simp only [Act.put, List.setIfInBounds_toArray, List.set_cons_zero, List.set_cons_succ]) | (refine C_so rfl rfl hS0 ?_; simp only [Act.put, List.setIfInBounds_toArray, List.set_cons_zero, List.set_cons_succ]) | (refine C_to rfl rfl ?_; simp only [Act.put, List.setIfInBounds_toArray, List.set_cons_zero, List.set_cons_succ])))
  (refine C_e rfl rfl (fun K hK => ?_); go_simp)
  refine HRF.out.mono ?_
  rintro e w6 ⟨a6, c6, rfl, h6⟩
  have hsi := sameI_sat a5 a6 c5 c6 ks ks (W := W) (w := w6) (A := sep (isRD q s) (sep (isDisk p s) A)) (by
    rw [← HK.out.2.2]
    have : Sat W w6 (sep (osl 3 1 a6 nk c6 (ks.map iv)) (sep (isRD q s) (sep (osl 3 1 a5 nk c5 (ks.map iv)) (sep (isDisk p s) A)))) := h6
    simpa only [sep_comm, sep_lcomm, sep_assoc] using this)
  rw [decide_eq_true rfl, ← HK.out.2.2] at hsi
  have HSI := Lib.hid hsi
  clear HRF h6 hsi
  (refine hK _ _ (fun h => by cases h) ?_; clear hK K; (try simp only [Act.put, List.setIfInBounds_toArray, List.set_cons_zero, List.set_cons_succ]))
  (repeat (first | (refine C_p (v := ?_) rfl rfl (fun w' => ?_) ?_; rotate_left; (go_simp; with_reducible rfl); simp only [Act.put, List.setIfInBounds_toArray, List.set_cons_zero, List.set_cons_succ]) | (refine C_s (v := ?_) rfl rfl hS0 (fun w' hS => ?_) ?_; rotate_left; ((try dsimp only at hS); go_simp; with_reducible rfl); simp only [Act.put, List.setIfInBounds_toArray, List.set_cons_zero, List.set_cons_succ]) | (refine C_t (v := ?_) rfl rfl ?_ ?_; rotate_left; (go_simp; with_reducible rfl); simp only [Act.put, List.setIfInBounds_toArray, List.set_cons_zero, List.set_cons_succ]) | (refine C_po rfl rfl ?_; simp only [Act.put, List.setIfInBounds_toArray, List.set_cons_zero, List.set_cons_succ]) | (refine C_so rfl rfl hS0 ?_; simp only [Act.put, List.setIfInBounds_toArray, List.set_cons_zero, List.set_cons_succ]) | (refine C_to rfl rfl ?_; simp only [Act.put, List.setIfInBounds_toArray, List.set_cons_zero, List.set_cons_succ])))
  (refine C_e rfl rfl (fun K hK => ?_); go_simp)
  refine HSI.out.mono ?_
  rintro e w7 ⟨rfl, h7⟩
  have H7 := Lib.hid h7.p1
  clear HSI h7 HK
  (refine hK _ _ (fun h => by cases h) ?_; clear hK K; (try simp only [Act.put, List.setIfInBounds_toArray, List.set_cons_zero, List.set_cons_succ]))
  (repeat (first | (refine C_p (v := ?_) rfl rfl (fun w' => ?_) ?_; rotate_left; (go_simp; with_reducible rfl); simp only [Act.put, List.setIfInBounds_toArray, List.set_cons_zero, List.set_cons_succ]) | (refine C_s (v := ?_) rfl rfl hS0 (fun w' hS => ?_) ?_; rotate_left; ((try dsimp only at hS); go_simp; with_reducible rfl); simp only [Act.put, List.setIfInBounds_toArray, List.set_cons_zero, List.set_cons_succ]) | (refine C_t (v := ?_) rfl rfl ?_ ?_; rotate_left; (go_simp; with_reducible rfl); simp only [Act.put, List.setIfInBounds_toArray, List.set_cons_zero, List.set_cons_succ]) | (refine C_po rfl rfl ?_; simp only [Act.put, List.setIfInBounds_toArray, List.set_cons_zero, List.set_cons_succ]) | (refine C_so rfl rfl hS0 ?_; simp only [Act.put, List.setIfInBounds_toArray, List.set_cons_zero, List.set_cons_succ]) | (refine C_to rfl rfl ?_; simp only [Act.put, List.setIfInBounds_toArray, List.set_cons_zero, List.set_cons_succ])))
  refine C_nil ?_
  clear hb
  go_wp2_with fail
  go_loopw [5] (fun iv' wr => ∃ i : Nat, i ≤ 4 ∧ iv' = .int .i64 (i : Nat) ∧ Sat W wr (sep (isDisk p s) (sep (isRD q s) A))) (fun iv' _ => 4 - (intOf iv').toNat)
  case atStart => exact ⟨0, by omega, rfl, H7.out⟩
  case round =>
    clear H7
    obtain ⟨i, hi, rfl, hS⟩ := hrel
    by_cases hi4 : i < 4
    · have hrd := dread_spec p s (i : Int) hS
      cases off with
      | true =>
        have hro : readD s (i : Int) = ([], 19) := by rw [readD, if_neg (by omega), ← HUU.out.2]; rfl
        rw [hro] at hrd
        dsimp only at hrd
        have HRD := Lib.hid hrd
        have hi4I : (i : Int) < 4 := by omega
        clear hS hrd hro
        go_wp2_with fail
        refine HRD.out.mono ?_
        rintro e w8 ⟨a8, c8, rfl, h8⟩
        have hoc := isRD_off h8.p2
        rw [← HUU.out.2] at hoc
        have H8 := Lib.hid h8.drop
        clear HRD h8
        go_wp2_with fail
        go_roundw
        case rel => exact ⟨i + 1, by omega, rfl, H8.out⟩
        case measure => simp only [intOf]; omega
      | false =>
        have hro : readD s (i : Int) = ((s.fs i).1, 0) := by rw [readD, if_neg (by omega), ← HUU.out.2]; rfl
        rw [hro] at hrd
        obtain ⟨bs, hbs⟩ : ∃ bs, bs = (s.fs i).1 := ⟨_, rfl⟩
        rw [← hbs] at hrd
        dsimp only at hrd
        obtain ⟨l, hl⟩ : ∃ l, l = bs.length := ⟨_, rfl⟩
        rw [← hl] at hrd
        have HRD := Lib.hid hrd
        have HB := Lib.hid (And.intro hbs hl)
        have hi4I : (i : Int) < 4 := by omega
        clear hS hrd hro hbs hl
        go_wp2_with fail
        refine HRD.out.mono ?_
        rintro e w8 ⟨a8, c8, rfl, h8⟩
        have hoc := isRD_off h8.p2
        rw [← HUU.out.2] at hoc
        obtain ⟨B, F, V, -, h9⟩ := isRD_open h8.p2
        have c1 : w8.cell? ⟨q, 1, none⟩ = some (.slice (some ⟨B, 0, none⟩) 64 64) := h9.cell 1
        obtain ⟨ba, bc, hVi, hsw, h10⟩ := fokr_at h9.p3 (show i < 64 by omega)
        rw [← HB.out.1, ← HB.out.2] at hVi h10
        have cb : w8.cell? ⟨B, i, none⟩ = some (.slice ba l bc) := by rw [h9.p1.cell i, rowC_get _ (by omega), hVi]
        have hi64 : (i : Int) < 64 := by omega
        have h11 : Sat W w8 (sep (rBytes.is [.slice ba l bc] bs) (sep (isRD q s) (sep (osl 5 1 a8 l c8 (bs.map bv)) (sep (isDisk p s) A)))) := by
          have hok := isRD_ok h8.p2
          have h12 : Sat W w8 (sep (blk q (.cells (rdC B F s) 58 (0, 0))) (sep (blk B (.cells (rowC V) 27 (0, 0))) (sep (blk F (.cells (rowC (firmV s.fs)) 3 (0, 0))) (sep (fokr V s.fs) (sep (rBytes.is [.slice ba l bc] bs) (sep (osl 5 1 a8 l c8 (bs.map bv)) (sep (isDisk p s) A))))))) := by
            simpa only [sep_comm, sep_lcomm, sep_assoc] using h10
          exact (isRD_mk hok h12).p1
        have hsb := sameBytes_spec (.slice a8 l c8) (.slice ba l bc) bs bs (show Sat W w8 (sep (rBytes.is [.slice a8 l c8] bs) (sep (rBytes.is [.slice ba l bc] bs) (sep (isDisk p s) (sep (isRD q s) A)))) from by
          have := h11.p2.bytes_of_osl.2
          simpa only [sep_comm, sep_lcomm, sep_assoc] using this)
        rw [decide_eq_true rfl] at hsb
        have HSB := Lib.hid hsb
        clear HRD h8 h9 h10 h11 hVi hsw hsb
        go_wp2_with fail
        refine HSB.out.mono ?_
        rintro e w9 ⟨rfl, h12⟩
        have H12 := Lib.hid h12.drop.drop
        clear HSB h12 hoc c1 cb
        go_wp2_with fail
        go_roundw
        case rel => exact ⟨i + 1, by omega, rfl, H12.out⟩
        case measure => simp only [intOf]; omega
    · have hi4I : ¬ (i : Int) < 4 := by omega
      go_wp2_with fail
      go_ret
      exact ⟨rfl, hS⟩
end Go.Proofs.Ytbniekblkbdidaa
