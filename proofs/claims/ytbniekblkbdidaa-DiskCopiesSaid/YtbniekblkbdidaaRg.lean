/- DiskCopies, the walk. -/
import Derived.Test.YtbniekblkbdidaaRd
namespace Go.Proofs.Ytbniekblkbdidaa
open Go.RowKit PA
def foldD (s : DSt) (ops : List OpD) (i : Nat) : DSt := (ops.take i).foldl (fun s o => (doD s o).2) s
theorem foldD_succ (s : DSt) (ops : List OpD) (i : Nat) (hi : i < ops.length) : foldD s ops (i + 1) = (doD (foldD s ops i) ops[i]).2 := by
  unfold foldD
  rw [List.take_succ_eq_append_getElem hi, List.foldl_append]
  rfl
theorem foldD_zero (s : DSt) (ops : List OpD) : foldD s ops 0 = s := rfl
set_option maxRecDepth 100000 in
set_option maxHeartbeats 8000000 in
theorem diskCopies_walk (a0 : Int) (a1 : Option Addr) (len1 cap1 : Nat) (z1 : List Int) (a2 : Option Addr) (len2 cap2 : Nat) (z2 : List Int) (w : World)
    (w0 : (Lit.int .i64 a0).wf = true) (w1 : IsArg w a1 len1 cap1 z1) (w2 : IsArg w a2 len2 cap2 z2) :
    Calls Try.prog 8 #[.int .i64 a0, .slice a1 len1 cap1, .slice a2 len2 cap2] w fun e w' => e = .returned (.bool true) ∧ Below w.heap.size w w' := by
  obtain ⟨ns, hns, hr1, h64⟩ := argI w1
  obtain ⟨ms, hms, hr2, h64'⟩ := argI w2
  have HM := Lib.hid (made29_spec a0 a1 len1 cap1 ns (Sat.startKn w) (i64_of_wf w0) hr1 h64)
  have HV := Lib.hid (And.intro hr2 h64')
  clear w0 w1 w2 hns hr1 h64 hms hr2 h64'
  go_enter Try.func8, Try.ntmps8
  go_wp2_with fail
  refine HM.out.mono ?_
  rintro e w3 ⟨p, q, s, I, hI, rfl, h3⟩
  have HC := Lib.hid (dcopy_spec p s h3)
  have HI := Lib.hid hI
  clear HM h3 hI
  go_wp2_with fail
  refine HC.out.mono ?_
  rintro e w4 ⟨c, rfl, h4⟩
  have HS := Lib.hid (same29_spec c q s (h4.p2.p1))
  clear HC h4
  go_wp2_with fail
  refine HS.out.mono ?_
  rintro e w5 ⟨rfl, h5⟩
  have h6 : Sat w w5 (sep (kn I) (sep (isDisk c s) (sep (isRD q s) (sep (isDisk p s) emp)))) := by
    simpa only [sep_comm, sep_lcomm, sep_assoc] using h5
  have HO := Lib.hid (rdops_spec a2 len2 cap2 ms h6 (Rep.mono _ HI.out HV.out.1) HV.out.2)
  clear HS h5 h6
  go_wp2_with fail
  refine HO.out.mono ?_
  rintro e w6 ⟨J, oa, oc, ops, hIJ, rfl, hol, hor, hok, h7⟩
  obtain ⟨m, hm⟩ : ∃ m, m = ops.length := ⟨_, rfl⟩
  rw [← hm] at hor hol ⊢
  have HOP := Lib.hid (And.intro hm (And.intro hor (And.intro hok hIJ)))
  have H7 := Lib.hid h7
  clear HO hm hor hok hIJ h7
  go_upto_block 0 with (fail)
  go_cut [] (fun wx => Sat w wx (sep (isDisk c (foldD s ops m)) (sep (isRD q s) (sep (isDisk p s) (sep (kn J) emp)))))
  case first =>
    go_wp2_with fail
    go_loopw [11] (fun iv' wr => ∃ i : Nat, i ≤ m ∧ iv' = .int .i64 (i : Nat) ∧ Sat w wr (sep (isDisk c (foldD s ops i)) (sep (isRD q s) (sep (isDisk p s) (sep (kn J) emp))))) (fun iv' _ => m - (intOf iv').toNat)
    case atStart => exact ⟨0, by omega, rfl, by rw [foldD_zero]; have := H7.out; simpa only [sep_comm, sep_lcomm, sep_assoc] using this⟩
    case round =>
      clear H7
      obtain ⟨i, hi, rfl, hS⟩ := hrel
      by_cases him : i < m
      · have hio : i < ops.length := by rw [← HOP.out.1]; exact him
        obtain ⟨b, o, vb, vk, rfl, hvb, hvk, hcell⟩ := op_el HOP.out.2.1 i hio
        have hfs := foldD_succ s ops i hio
        obtain ⟨op, hop⟩ : ∃ op, op = ops[i] := ⟨_, rfl⟩
        rw [← hop] at hvb hvk hfs
        have hcell2 := hcell
        simp only [← hop] at hcell2
        have hopk : opOK op := by rw [hop]; exact HOP.out.2.2.1 _ (List.getElem_mem hio)
        obtain ⟨g0, g1, g2, g3, g4⟩ := hcell2 wr hS.p3.ext
        obtain ⟨sc, hsc⟩ : ∃ sc, sc = foldD s ops i := ⟨_, rfl⟩
        rw [← hsc] at hS hfs
        have HD := Lib.hid (do29_spec c sc op vb vk (hS.p3.p1) hvb hvk hopk)
        rw [← hfs] at HD
        have himI : (i : Int) < (m : Int) := by omega
        clear hcell hcell2 hio hvb hvk hop hopk hS him hfs hsc
        go_wp2_with fail
        refine HD.out.mono ?_
        rintro e w8 ⟨rfl, h8⟩
        have h9 : Sat w w8 (sep (isDisk c (foldD s ops (i + 1))) (sep (isRD q s) (sep (isDisk p s) (sep (kn J) emp)))) := by
          simpa only [sep_comm, sep_lcomm, sep_assoc] using h8
        have H9 := Lib.hid h9
        clear HD h8 h9 g0 g1 g2 g3 g4
        go_wp2_with fail
        go_roundw
        case rel => exact ⟨i + 1, by omega, rfl, H9.out⟩
        case measure => simp only [intOf]; omega
      · obtain rfl : i = m := by omega
        go_wp2_with fail
        go_meet
        exact hS
  case rest =>
    clear H7
    obtain ⟨fin, hfin⟩ : ∃ fin, fin = foldD s ops m := ⟨_, rfl⟩
    rw [← hfin] at hcut
    have HFIN := Lib.hid hfin
    have HS := Lib.hid (same29_spec p q s (show Sat w wc (sep (isDisk p s) (sep (isRD q s) (sep (isDisk c fin) (sep (kn J) emp)))) by simpa only [sep_comm, sep_lcomm, sep_assoc] using hcut))
    clear hcut hfin
    go_wp2_with fail
    refine HS.out.mono ?_
    rintro e w7 ⟨rfl, h7⟩
    have HC := Lib.hid (dcopy_spec p s h7)
    clear HS h7
    go_wp2_with fail
    refine HC.out.mono ?_
    rintro e w8 ⟨g, rfl, h8⟩
    have h9 : Sat w w8 (sep (isDisk g s) (sep (isRD q s) (sep (isDisk c fin) (sep (isDisk p s) (sep (kn J) emp))))) := by
      simpa only [sep_comm, sep_lcomm, sep_assoc] using h8
    have H9 := Lib.hid h9
    clear HC h8 h9
    go_upto_block 2 with (fail)
    go_cut [] (fun wx => Sat w wx (sep (isDisk g fin) (sep (isRD q fin) (sep (isDisk c fin) (sep (isDisk p s) (sep (kn J) emp))))))
    case first =>
      go_wp2_with fail
      go_loopw [13] (fun iv' wr => ∃ i : Nat, i ≤ m ∧ iv' = .int .i64 (i : Nat) ∧ Sat w wr (sep (isDisk g (foldD s ops i)) (sep (isRD q (foldD s ops i)) (sep (isDisk c fin) (sep (isDisk p s) (sep (kn J) emp)))))) (fun iv' _ => m - (intOf iv').toNat)
      case atStart => exact ⟨0, by omega, rfl, by rw [foldD_zero]; exact H9.out⟩
      case round =>
        clear H9
        obtain ⟨i, hi, rfl, hS⟩ := hrel
        by_cases him : i < m
        · have hio : i < ops.length := by rw [← HOP.out.1]; exact him
          obtain ⟨b, o, vb, vk, rfl, hvb, hvk, hcell⟩ := op_el HOP.out.2.1 i hio
          have hfs := foldD_succ s ops i hio
          obtain ⟨op, hop⟩ : ∃ op, op = ops[i] := ⟨_, rfl⟩
          rw [← hop] at hvb hvk hfs
          have hcell2 := hcell
          simp only [← hop] at hcell2
          have hopk : opOK op := by rw [hop]; exact HOP.out.2.2.1 _ (List.getElem_mem hio)
          have hS0 := hcell2 wr.drew hS.drew.p4.ext
          have hS0' := hS0
          obtain ⟨g0, g1, g2, g3, g4⟩ := hS0'
          obtain ⟨sc, hsc⟩ : ∃ sc, sc = foldD s ops i := ⟨_, rfl⟩
          rw [← hsc] at hS hfs
          have HD := Lib.hid (do29_spec g sc op vb vk (hS.drew.p4.p1) hvb hvk hopk)
          obtain ⟨r, hr⟩ : ∃ r, r = (doD sc op).1 := ⟨_, rfl⟩
          rw [← hfs, ← hr] at HD
          have HC := Lib.hid hcell2
          have HB := Lib.hid (And.intro hvb (And.intro hvk (And.intro hopk (And.intro hfs hr))))
          have himI : (i : Int) < (m : Int) := by omega
          clear hcell hcell2 hio hvb hvk hop hopk hS him hfs hsc hr
          go_wp2_with fail
          refine wp_region_canon rfl (fun w' => w'.cell? ⟨b, o + i * 5, none⟩ = some (.int .i64 op.kind) ∧ w'.cell? ⟨b, o + i * 5 + 1, none⟩ = some (.int .i64 op.file) ∧ w'.cell? ⟨b, o + i * 5 + 2, none⟩ = some (.int .i64 op.n) ∧ w'.cell? ⟨b, o + i * 5 + 3, none⟩ = some vb ∧ w'.cell? ⟨b, o + i * 5 + 4, none⟩ = some vk) [(0, .p), (1, .p), (2, .p), (3, .p), (4, .t), (6, .p), (7, .p), (8, .p), (9, .p), (10, .s), (5, .e true), (11, .e false), (12, .p)] (by kernel_rfl) ?_
          (repeat (first | (refine C_p (v := ?_) rfl rfl (fun w' => ?_) ?_; rotate_left; (go_simp; with_reducible rfl); simp only [Act.put, List.setIfInBounds_toArray, List.set_cons_zero, List.set_cons_succ]) | (refine C_s (v := ?_) rfl rfl hS0 (fun w' hS => ?_) ?_; rotate_left; ((try dsimp only at hS); go_simp; with_reducible rfl); simp only [Act.put, List.setIfInBounds_toArray, List.set_cons_zero, List.set_cons_succ]) | (refine C_t (v := ?_) rfl rfl ?_ ?_; rotate_left; (go_simp; with_reducible rfl); simp only [Act.put, List.setIfInBounds_toArray, List.set_cons_zero, List.set_cons_succ]) | (refine C_po rfl rfl ?_; simp only [Act.put, List.setIfInBounds_toArray, List.set_cons_zero, List.set_cons_succ]) | (refine C_so rfl rfl hS0 ?_; simp only [Act.put, List.setIfInBounds_toArray, List.set_cons_zero, List.set_cons_succ]) | (refine C_to rfl rfl ?_; simp only [Act.put, List.setIfInBounds_toArray, List.set_cons_zero, List.set_cons_succ])))
          (refine C_e rfl rfl (fun K hK => ?_); go_simp)
          refine HD.out.mono ?_
          rintro e w5 ⟨rfl, h5⟩
          clear HD g0 g1 g2 g3 g4 hS0
          have hS0 := HC.out w5 h5.p1.ext
          have HD := Lib.hid (rdo_spec q sc op vb vk (show Sat w w5 (sep (isRD q sc) (sep (kn J) (sep (isDisk g (foldD s ops (i + 1))) (sep (isDisk c fin) (sep (isDisk p s) emp))))) by simpa only [sep_comm, sep_lcomm, sep_assoc] using h5) HB.out.1 HB.out.2.1 HB.out.2.2.1)
          rw [← HB.out.2.2.2.1, ← HB.out.2.2.2.2] at HD
          clear h5
          (refine hK _ _ (fun _ => hS0) ?_; clear hK K; (try simp only [Act.put, List.setIfInBounds_toArray, List.set_cons_zero, List.set_cons_succ]))
          (repeat (first | (refine C_p (v := ?_) rfl rfl (fun w' => ?_) ?_; rotate_left; (go_simp; with_reducible rfl); simp only [Act.put, List.setIfInBounds_toArray, List.set_cons_zero, List.set_cons_succ]) | (refine C_s (v := ?_) rfl rfl hS0 (fun w' hS => ?_) ?_; rotate_left; ((try dsimp only at hS); go_simp; with_reducible rfl); simp only [Act.put, List.setIfInBounds_toArray, List.set_cons_zero, List.set_cons_succ]) | (refine C_t (v := ?_) rfl rfl ?_ ?_; rotate_left; (go_simp; with_reducible rfl); simp only [Act.put, List.setIfInBounds_toArray, List.set_cons_zero, List.set_cons_succ]) | (refine C_po rfl rfl ?_; simp only [Act.put, List.setIfInBounds_toArray, List.set_cons_zero, List.set_cons_succ]) | (refine C_so rfl rfl hS0 ?_; simp only [Act.put, List.setIfInBounds_toArray, List.set_cons_zero, List.set_cons_succ]) | (refine C_to rfl rfl ?_; simp only [Act.put, List.setIfInBounds_toArray, List.set_cons_zero, List.set_cons_succ])))
          (refine C_e rfl rfl (fun K hK => ?_); go_simp)
          refine HD.out.mono ?_
          rintro e w6 ⟨rfl, h6⟩
          have h7 : Sat w w6 (sep (isDisk g (foldD s ops (i + 1))) (sep (isRD q (foldD s ops (i + 1))) (sep (isDisk c fin) (sep (isDisk p s) (sep (kn J) emp))))) := by
            simpa only [sep_comm, sep_lcomm, sep_assoc] using h6
          have H7 := Lib.hid h7
          clear HD h6 h7 hS0 HB
          (refine hK _ _ (fun h => by cases h) ?_; clear hK K; (try simp only [Act.put, List.setIfInBounds_toArray, List.set_cons_zero, List.set_cons_succ]))
          (repeat (first | (refine C_p (v := ?_) rfl rfl (fun w' => ?_) ?_; rotate_left; (go_simp; with_reducible rfl); simp only [Act.put, List.setIfInBounds_toArray, List.set_cons_zero, List.set_cons_succ]) | (refine C_s (v := ?_) rfl rfl hS0 (fun w' hS => ?_) ?_; rotate_left; ((try dsimp only at hS); go_simp; with_reducible rfl); simp only [Act.put, List.setIfInBounds_toArray, List.set_cons_zero, List.set_cons_succ]) | (refine C_t (v := ?_) rfl rfl ?_ ?_; rotate_left; (go_simp; with_reducible rfl); simp only [Act.put, List.setIfInBounds_toArray, List.set_cons_zero, List.set_cons_succ]) | (refine C_po rfl rfl ?_; simp only [Act.put, List.setIfInBounds_toArray, List.set_cons_zero, List.set_cons_succ]) | (refine C_so rfl rfl hS0 ?_; simp only [Act.put, List.setIfInBounds_toArray, List.set_cons_zero, List.set_cons_succ]) | (refine C_to rfl rfl ?_; simp only [Act.put, List.setIfInBounds_toArray, List.set_cons_zero, List.set_cons_succ])))
          refine C_nil ?_
          go_wp2_with fail
          go_roundw
          case rel => exact ⟨i + 1, by omega, rfl, H7.out⟩
          case measure => simp only [intOf]; omega
        · obtain rfl : i = m := by omega
          have h8 := hS
          rw [← HFIN.out] at h8
          have H8 := Lib.hid h8
          clear hS h8
          go_wp2_with fail
          go_meet
          exact H8.out
    case rest =>
      clear H9
      have HS := Lib.hid (same29_spec g q fin hcut)
      clear hcut
      go_wp2_with fail
      refine HS.out.mono ?_
      rintro e w9 ⟨rfl, h9⟩
      have HS2 := Lib.hid (same29_spec c q fin (show Sat w w9 (sep (isDisk c fin) (sep (isRD q fin) (sep (isDisk g fin) (sep (isDisk p s) (sep (kn J) emp))))) by simpa only [sep_comm, sep_lcomm, sep_assoc] using h9))
      clear HS h9
      go_wp2_with fail
      refine HS2.out.mono ?_
      rintro e w10 ⟨rfl, h10⟩
      go_wp2_with fail
      refine (lives29_spec h10).mono ?_
      rintro e w11 ⟨rfl, h11⟩
      go_wp2_with fail
      go_ret
      exact ⟨rfl, h11.below⟩
end Go.Proofs.Ytbniekblkbdidaa
