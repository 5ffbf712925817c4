/- The reference's disk: Copy. -/
import Derived.Test.YtbniekblkbdidaaR5
namespace Go.Proofs.Ytbniekblkbdidaa
open Go.RowKit PA
def copyTo (fs : Nat → File) (i : Nat) : Nat → File := fun j => if j < i then fs j else ([], 0)
theorem copyTo_all {s : DSt} (h : s.ok) : copyTo s.fs 64 = s.fs := by
  funext j
  unfold copyTo
  split
  · rfl
  · exact (h.hi j (by omega)).symm
theorem copyTo_firm (fs : Nat → File) (i : Nat) : rowC (vset (firmV (copyTo fs i)) i (.int .i64 ((fs i).2 : Nat))) = rowC (firmV (copyTo fs (i + 1))) := by
  refine rowC_congr fun j _ => ?_
  unfold vset firmV copyTo
  by_cases h1 : j = i
  · subst h1; simp
  · by_cases h2 : j < i
    · simp [h1, h2, show j < i + 1 by omega]
    · simp [h1, h2, show ¬ j < i + 1 by omega]
def CopyI (W : World) (A : Assn) (q B2 F2 p : Nat) (s : DSt) (i : Nat) (wr : World) : Prop :=
  ∃ V2 : Nat → Value, (∀ j, i ≤ j → V2 j = .slice none 0 0) ∧ Sat W wr (sep (blk q (.cells (rdC B2 F2 (newD s.room)) 58 (0, 0))) (sep (blk B2 (.cells (rowC V2) 27 (0, 0))) (sep (blk F2 (.cells (rowC (firmV (copyTo s.fs i))) 3 (0, 0))) (sep (fokr V2 (copyTo s.fs i)) (sep (isRD p s) A)))))
theorem CopyI.step {W w5 : World} {A : Assn} {I : Mem} {q B2 F2 p i l c : Nat} {a : Option Addr} {s : DSt} {V2 : Nat → Value} (hi : i < 64) (hV : ∀ j, i ≤ j → V2 j = .slice none 0 0) (hr : rBytes.rel I [.slice a l c] (s.fs i).1)
    (h : Sat W w5 (sep (blk B2 (.cells (rowC (vset V2 i (.slice a l c))) 27 (0, 0))) (sep (blk F2 (.cells (rowC (vset (firmV (copyTo s.fs i)) i (.int .i64 ((s.fs i).2 : Nat)))) 3 (0, 0))) (sep (blk q (.cells (rdC B2 F2 (newD s.room)) 58 (0, 0))) (sep (fokr V2 (copyTo s.fs i)) (sep (kn I) (sep (isRD p s) A)))))))
    : CopyI W A q B2 F2 p s (i + 1) w5 := by
  refine ⟨vset V2 i (.slice a l c), fun j hj => ?_, ?_⟩
  · unfold vset; rw [if_neg (by omega)]; exact hV j (by omega)
  · rw [← copyTo_firm]
    have h1 : Sat W w5 (sep (fokr V2 (copyTo s.fs i)) (sep (kn I) (sep (blk q (.cells (rdC B2 F2 (newD s.room)) 58 (0, 0))) (sep (blk B2 (.cells (rowC (vset V2 i (.slice a l c))) 27 (0, 0))) (sep (blk F2 (.cells (rowC (vset (firmV (copyTo s.fs i)) i (.int .i64 ((s.fs i).2 : Nat)))) 3 (0, 0))) (sep (isRD p s) A)))))) := by
      simpa only [sep_comm, sep_lcomm, sep_assoc] using h
    have h2 : Sat W w5 (sep (fokr (vset V2 i (.slice a l c)) (copyTo s.fs (i + 1))) (sep (kn I) (sep (blk q (.cells (rdC B2 F2 (newD s.room)) 58 (0, 0))) (sep (blk B2 (.cells (rowC (vset V2 i (.slice a l c))) 27 (0, 0))) (sep (blk F2 (.cells (rowC (vset (firmV (copyTo s.fs i)) i (.int .i64 ((s.fs i).2 : Nat)))) 3 (0, 0))) (sep (isRD p s) A)))))) := by
      refine h1.wk ?_
      rintro J m ⟨x, y, g1, rfl, ⟨rfl, g2⟩, x', y', g3, rfl, ⟨rfl, hle⟩, g4⟩
      refine ⟨Mem.no, _, g1, rfl, ⟨rfl, fun j hj => ?_⟩, Mem.no, y', g3, rfl, ⟨rfl, hle⟩, g4⟩
      unfold vset
      by_cases e : j = i
      · subst e; simp only [if_true, copyTo, show j < j + 1 by omega]; exact rBytes.mono hle hr
      · rw [if_neg e]
        have := g2 j hj
        unfold copyTo at this ⊢
        by_cases e2 : j < i
        · rw [if_pos e2] at this; rw [if_pos (by omega)]; exact this
        · rw [if_neg e2] at this; rw [if_neg (by omega)]; exact this
    have h3 := h2.p1.drop
    simpa only [sep_comm, sep_lcomm, sep_assoc] using h3
set_option maxRecDepth 100000 in
set_option maxHeartbeats 4000000 in
theorem rdcopy_spec {W w : World} {A : Assn} (p : Nat) (s : DSt) (h : Sat W w (sep (isRD p s) A)) :
    Calls Try.prog 33 #[.pointer (some ⟨p, 0, none⟩)] w fun e w' => ∃ q, e = .returned (.pointer (some ⟨q, 0, none⟩)) ∧ Sat W w' (sep (isRD q s) (sep (isRD p s) A)) := by
  obtain ⟨B, F, V, hok, h0⟩ := isRD_open h
  have c0 : w.cell? ⟨p, 0, none⟩ = some (.int .i64 (s.room : Nat)) := h0.cell 0
  have hnw := rdnew_raw s.room h
  have HNW := Lib.hid hnw
  have HOK := Lib.hid hok
  obtain ⟨rm, hrm⟩ : ∃ rm, rm = s.room := ⟨_, rfl⟩
  rw [← hrm] at c0 HNW
  have HRM := Lib.hid hrm
  clear h h0 hnw hok hrm
  go_enter Try.func33, Try.ntmps33
  go_wp2_with fail
  refine HNW.out.mono ?_
  rintro e w2 ⟨q, B2, F2, rfl, h1⟩
  have h2 : CopyI W A q B2 F2 p s 0 w2 := by
    refine ⟨fun _ => .slice none 0 0, fun _ _ => rfl, ?_⟩
    have e1 : copyTo s.fs 0 = noFiles := by funext j; simp [copyTo, noFiles]
    rw [e1]
    rw [HRM.out] at h1
    have h3 : Sat W w2 (sep (fokr (fun _ => .slice none 0 0) noFiles) _) := Sat.startPers W (fun I => FOKr I (fun _ => .slice none 0 0) noFiles) (fun I J hl h j hj => rBytes.mono hl (h j hj)) h1 (fun j hj => bytes_rel.2 ⟨none, 0, rfl, ⟨Nat.le_refl _, Nat.zero_le _, fun _ => rfl⟩, .inl rfl⟩)
    have e2 : rowC (firmV noFiles) = zrow (.int .i64 0) := rfl
    rw [e2]
    have h4 : Sat W w2 (sep (fokr (fun _ => .slice none 0 0) noFiles) (sep (blk q (.cells (rdC B2 F2 (newD s.room)) 58 (0, 0))) (sep (blk B2 (.cells (rowC fun _ => .slice none 0 0) 27 (0, 0))) (sep (blk F2 (.cells (zrow (.int .i64 0)) 3 (0, 0))) (sep (isRD p s) A))))) := h3
    simpa only [sep_comm, sep_lcomm, sep_assoc] using h4
  have H2 := Lib.hid h2
  clear HNW h1 h2 c0
  go_wp2_with fail
  go_loopw [4] (fun iv' wr => ∃ i : Nat, i ≤ 64 ∧ iv' = .int .i64 (i : Nat) ∧ Hid (CopyI W A q B2 F2 p s i wr)) (fun iv' _ => 64 - (intOf iv').toNat)
  case atStart => exact ⟨0, by omega, rfl, H2⟩
  case round =>
    clear H2
    obtain ⟨i, hi, rfl, HS⟩ := hrel
    by_cases hi64 : i < 64
    · obtain ⟨V2, hV2, hS⟩ := HS.out
      obtain ⟨B, F, V, -, h3⟩ := isRD_open hS.p4
      have hi64I : (i : Int) < 64 := by omega
      have c1 : wr.drew.cell? ⟨p, 1, none⟩ = some (.slice (some ⟨B, 0, none⟩) 64 64) := h3.drew.cell 1
      obtain ⟨ba, bc, hVj, hsw, h4⟩ := fokr_at h3.p3 hi64
      obtain ⟨bs, hbs⟩ : ∃ bs, bs = (s.fs i).1 := ⟨_, rfl⟩
      rw [← hbs] at hVj hsw h4
      obtain ⟨l, hl⟩ : ∃ l, l = bs.length := ⟨_, rfl⟩
      rw [← hl] at hVj hsw h4
      have hll : l ≤ 16777216 := by rw [hl, hbs]; exact file_le HOK.out i
      have hcj : wr.drew.cell? ⟨B, i, none⟩ = some (.slice ba l bc) := by rw [h3.drew.p1.cell i, rowC_get _ hi64, hVj]
      have hS0 : wr.drew.cell? ⟨q, 1, none⟩ = some (.slice (some ⟨B2, 0, none⟩) 64 64) := hS.drew.cell 1
      have hc2 : wr.drew.cell? ⟨B2, i, none⟩ = some (.slice none 0 0) := by rw [hS.drew.p1.cell i, rowC_get _ hi64, hV2 i (Nat.le_refl _)]
      obtain ⟨I, hk⟩ := h4.know
      obtain ⟨J, hIJ, hr, h5⟩ := hk.p1.learn
      obtain ⟨s1, s2, s3⟩ := rel_src' hr
      have hsrc := s3 wr.drew h5.drew.ext
      have hn0 : ba = none → l = 0 := fun e => by have := s2.2.2 e; have := s2.1; omega
      have h6 := (h5.drew).osl_nil 5 1
      have H6 := Lib.hid h6
      have HSRC := Lib.hid hsrc
      have HN0 := Lib.hid hn0
      have HB := Lib.hid (And.intro hbs (And.intro hl hV2))
      clear hS h3 hVj hsw h4 hk hr h5 s1 s2 s3 hsrc hn0 h6 hbs hl hV2 HS
      go_wp2_with fail
      refine wp_region_canon rfl (fun w' => w'.cell? ⟨q, 1, none⟩ = some (.slice (some ⟨B2, 0, none⟩) 64 64)) [(0, .p), (1, .p), (2, .p), (3, .s), (4, .p), (5, .p), (6, .p), (7, .p), (8, .t), (9, .p), (10, .p), (11, .t), (12, .p), (13, .p), (14, .p), (15, .t), (16, .p), (17, .p), (18, .t), (19, .e true), (20, .p), (21, .e false)] (by kernel_rfl) ?_
      (repeat (first | (refine C_p (v := ?_) rfl rfl (fun w' => ?_) ?_; rotate_left; (go_simp; with_reducible rfl); simp only [Act.put, List.setIfInBounds_toArray, List.set_cons_zero, List.set_cons_succ]) | (refine C_s (v := ?_) rfl rfl hS0 (fun w' hS => ?_) ?_; rotate_left; ((try dsimp only at hS); go_simp; with_reducible rfl); simp only [Act.put, List.setIfInBounds_toArray, List.set_cons_zero, List.set_cons_succ]) | (refine C_t (v := ?_) rfl rfl ?_ ?_; rotate_left; (go_simp; with_reducible rfl); simp only [Act.put, List.setIfInBounds_toArray, List.set_cons_zero, List.set_cons_succ]) | (refine C_po rfl rfl ?_; simp only [Act.put, List.setIfInBounds_toArray, List.set_cons_zero, List.set_cons_succ]) | (refine C_so rfl rfl hS0 ?_; simp only [Act.put, List.setIfInBounds_toArray, List.set_cons_zero, List.set_cons_succ]) | (refine C_to rfl rfl ?_; simp only [Act.put, List.setIfInBounds_toArray, List.set_cons_zero, List.set_cons_succ])))
      refine C_e rfl rfl (fun K hK => ?_)
      refine wp_append_osl (.tmp 25) (.tmp 32) 27 rfl 5 1 1 (.int .u8 0) Try.underlying27 infoU8d rfl rfl H6.out rfl (bs.map bv) (by rw [List.length_map, HB.out.2.1]; simp) HN0.out HSRC.out (bv_one bs) (by omega) (by unfold maxLen; omega) ?_
      intro a5 c5 w5 h7
      rw [Nat.zero_add, List.nil_append] at h7
      rw [Nat.zero_add]
      obtain ⟨KM, hJK, hrn, h8⟩ := h7.bytes_of_osl.2.learn
      have hS0 : w5.cell? ⟨q, 1, none⟩ = some (.slice (some ⟨B2, 0, none⟩) 64 64) := h8.p5.cell 1
      have hb2 : w5.cell? ⟨B2, i, none⟩ = some (V2 i) := by rw [h8.p6.cell i, rowC_get _ hi64]
      have hbz := h8.p6.unfrozen i
      have h9 := h8.p6.setCell i (.slice a5 l c5)
      rw [rowC_set] at h9
      obtain ⟨w6, hw6⟩ : ∃ w6, w6 = w5.setCell ⟨B2, i, none⟩ (.slice a5 l c5) := ⟨_, rfl⟩
      rw [← hw6] at h9
      have h10 := h9.drew
      have d1 : w6.drew.cell? ⟨q, 2, none⟩ = some (.slice (some ⟨F2, 0, none⟩) 64 64) := h10.p6.cell 2
      have d2 : w6.drew.cell? ⟨p, 2, none⟩ = some (.slice (some ⟨F, 0, none⟩) 64 64) := h10.p3.cell 2
      have d3 : w6.drew.cell? ⟨F, i, none⟩ = some (.int .i64 ((s.fs i).2 : Nat)) := by rw [h10.p5.cell i, rowC_get _ hi64]; rfl
      obtain ⟨d, hd⟩ : ∃ d, d = (s.fs i).2 := ⟨_, rfl⟩
      rw [← hd] at d3
      have d4 : w6.drew.cell? ⟨F2, i, none⟩ = some (firmV (copyTo s.fs i) i) := by rw [h10.p7.cell i, rowC_get _ hi64]
      have d5 := h10.p7.unfrozen i
      have h11 := h10.p7.setCell i (.int .i64 (d : Nat))
      rw [rowC_set] at h11
      obtain ⟨w7, hw7⟩ : ∃ w7, w7 = (w6.setCell ⟨F2, i, none⟩ (.int .i64 (d : Nat))).drew := ⟨_, rfl⟩
      have hfin : CopyI W A q B2 F2 p s (i + 1) w7 := by
        have h12 : Sat W w7 (sep (blk p (.cells (rdC B F s) 58 (0, 0))) (sep (blk B (.cells (rowC V) 27 (0, 0))) (sep (blk F (.cells (rowC (firmV s.fs)) 3 (0, 0))) (sep (fokr V s.fs) (sep (blk B2 (.cells (rowC (vset V2 i (.slice a5 l c5))) 27 (0, 0))) (sep (blk F2 (.cells (rowC (vset (firmV (copyTo s.fs i)) i (.int .i64 (d : Nat)))) 3 (0, 0))) (sep (blk q (.cells (rdC B2 F2 (newD s.room)) 58 (0, 0))) (sep (fokr V2 (copyTo s.fs i)) (sep (kn KM) A))))))))) := by
          rw [hw7]
          refine (show Sat W (w6.drew.setCell ⟨F2, i, none⟩ (.int .i64 (d : Nat))) _ → Sat W (w6.setCell ⟨F2, i, none⟩ (.int .i64 (d : Nat))).drew _ from fun h => h) ?_
          simpa only [sep_comm, sep_lcomm, sep_assoc] using h11
        have h14 := isRD_mk HOK.out h12
        rw [hd] at h14
        refine CopyI.step (I := KM) hi64 HB.out.2.2 (by rw [← HB.out.1]; exact hrn) ?_
        simpa only [sep_comm, sep_lcomm, sep_assoc] using h14
      have HFIN := Lib.hid hfin
      have HW6 := Lib.hid hw6
      have HW7 := Lib.hid hw7
      clear h7 h8 h9 h10 h11 hrn hfin hw6 hw7 hd H6 HSRC HN0 c1 hcj hc2 HB
      (refine hK _ _ (fun _ => hS0) ?_; clear hK K; (try simp only [Act.put, List.setIfInBounds_toArray, List.set_cons_zero, List.set_cons_succ]))
      (repeat (first | (refine C_p (v := ?_) rfl rfl (fun w' => ?_) ?_; rotate_left; (go_simp; with_reducible rfl); simp only [Act.put, List.setIfInBounds_toArray, List.set_cons_zero, List.set_cons_succ]) | (refine C_s (v := ?_) rfl rfl hS0 (fun w' hS => ?_) ?_; rotate_left; ((try dsimp only at hS); go_simp; with_reducible rfl); simp only [Act.put, List.setIfInBounds_toArray, List.set_cons_zero, List.set_cons_succ]) | (refine C_t (v := ?_) rfl rfl ?_ ?_; rotate_left; (go_simp; with_reducible rfl); simp only [Act.put, List.setIfInBounds_toArray, List.set_cons_zero, List.set_cons_succ]) | (refine C_po rfl rfl ?_; simp only [Act.put, List.setIfInBounds_toArray, List.set_cons_zero, List.set_cons_succ]) | (refine C_so rfl rfl hS0 ?_; simp only [Act.put, List.setIfInBounds_toArray, List.set_cons_zero, List.set_cons_succ]) | (refine C_to rfl rfl ?_; simp only [Act.put, List.setIfInBounds_toArray, List.set_cons_zero, List.set_cons_succ])))
      (refine C_e rfl rfl (fun K hK => ?_); go_simp)
      rw [← HW6.out]
      clear hS0 hb2 hbz
      (refine hK _ _ (fun h => by cases h) ?_; clear hK K; (try simp only [Act.put, List.setIfInBounds_toArray, List.set_cons_zero, List.set_cons_succ]))
      refine C_nil ?_
      have hS0 : True := trivial
      go_wp2_with fail
      refine wp_region_canon rfl (fun _ => True) [(0, .p), (1, .p), (2, .p), (3, .t), (4, .p), (5, .p), (6, .p), (7, .p), (8, .t), (9, .p), (10, .p), (11, .t), (12, .p), (13, .e false)] (by kernel_rfl) ?_
      (repeat (first | (refine C_p (v := ?_) rfl rfl (fun w' => ?_) ?_; rotate_left; (go_simp; with_reducible rfl); simp only [Act.put, List.setIfInBounds_toArray, List.set_cons_zero, List.set_cons_succ]) | (refine C_s (v := ?_) rfl rfl hS0 (fun w' hS => ?_) ?_; rotate_left; ((try dsimp only at hS); go_simp; with_reducible rfl); simp only [Act.put, List.setIfInBounds_toArray, List.set_cons_zero, List.set_cons_succ]) | (refine C_t (v := ?_) rfl rfl ?_ ?_; rotate_left; (go_simp; with_reducible rfl); simp only [Act.put, List.setIfInBounds_toArray, List.set_cons_zero, List.set_cons_succ]) | (refine C_po rfl rfl ?_; simp only [Act.put, List.setIfInBounds_toArray, List.set_cons_zero, List.set_cons_succ]) | (refine C_so rfl rfl hS0 ?_; simp only [Act.put, List.setIfInBounds_toArray, List.set_cons_zero, List.set_cons_succ]) | (refine C_to rfl rfl ?_; simp only [Act.put, List.setIfInBounds_toArray, List.set_cons_zero, List.set_cons_succ])))
      (refine C_e rfl rfl (fun K hK => ?_); go_simp)
      rw [← HW7.out]
      clear d1 d2 d3 d4 d5
      (refine hK _ _ (fun h => by cases h) ?_; clear hK K; (try simp only [Act.put, List.setIfInBounds_toArray, List.set_cons_zero, List.set_cons_succ]))
      refine C_nil ?_
      go_wp2_with fail
      go_roundw
      case rel => exact ⟨i + 1, by omega, rfl, HFIN⟩
      case measure => simp only [intOf]; omega
    · obtain rfl : i = 64 := by omega
      obtain ⟨V2, -, hS⟩ := HS.out
      rw [copyTo_all HOK.out] at hS
      obtain ⟨B, F, V, -, h3⟩ := isRD_open hS.p4
      have c3 : wr.cell? ⟨p, 3, none⟩ = some (.bool s.off) := h3.cell 3
      have c4 : wr.cell? ⟨p, 4, none⟩ = some (.int .i64 (planI s.plan)) := h3.cell 4
      have q3 : wr.cell? ⟨q, 3, none⟩ = some (.bool false) := hS.cell 3
      have q4 : wr.cell? ⟨q, 4, none⟩ = some (.int .i64 (-1)) := hS.cell 4
      have z3 := hS.unfrozen 3
      have z4 := hS.unfrozen 4
      have hpq : p ≠ q := h3.p4.p1.ne_blk
      have hS2 := (hS.setCell 3 (.bool s.off)).setCell 4 (.int .i64 (planI s.plan))
      have hfin : Sat W ((wr.setCell ⟨q, 3, none⟩ (.bool s.off)).setCell ⟨q, 4, none⟩ (.int .i64 (planI s.plan))) (sep (isRD q s) (sep (isRD p s) A)) := isRD_mk (B := B2) (F := F2) (V := V2) HOK.out hS2
      have HFIN := Lib.hid hfin
      clear hS h3 hS2 hfin HS
      go_wp2_with fail
      go_ret
      exact ⟨q, rfl, HFIN.out⟩
end Go.Proofs.Ytbniekblkbdidaa
