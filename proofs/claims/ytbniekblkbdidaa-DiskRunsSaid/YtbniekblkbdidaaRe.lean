/- DiskRuns, the walk. -/
import Derived.Test.YtbniekblkbdidaaRd
namespace Go.Proofs.Ytbniekblkbdidaa
open Go.RowKit PA
set_option maxRecDepth 100000 in
set_option maxHeartbeats 8000000 in
theorem diskRuns_walk (a0 : Int) (a1 : Option Addr) (len1 cap1 : Nat) (z1 : List Int) (w : World)
    (w0 : (Lit.int .i64 a0).wf = true) (w1 : IsArg w a1 len1 cap1 z1) :
    Calls Try.prog 5 #[.int .i64 a0, .slice a1 len1 cap1] w fun e w' => e = .returned (.bool true) ∧ Below w.heap.size w w' := by
  obtain ⟨ns, hns, hr1, h64⟩ := argI w1
  have H := Lib.hid (Sat.startKn w)
  have HR := Lib.hid (i64_of_wf w0)
  have HV := Lib.hid (And.intro hr1 h64)
  clear w0 w1 hns hr1 h64
  go_enter Try.func5, Try.ntmps5
  go_wp2_with fail
  refine (around_spec a0 40 w HR.out.1 HR.out.2 (by omega) (by omega)).mono ?_
  rintro e w' ⟨rfl, rfl⟩
  have hq := aroundI_lt a0 40 (by omega)
  obtain ⟨k, hk⟩ : ∃ k : Nat, aroundI a0 40 = (k : Int) := ⟨(aroundI a0 40).toNat, by omega⟩
  rw [hk] at hq ⊢
  have hk40 : k < 40 := by omega
  obtain ⟨rm, hrm⟩ : ∃ rm, rm = 12 + k := ⟨_, rfl⟩
  have hrI : 12 + (k : Int) = (rm : Int) := by omega
  have hrb : rm ≤ 60 := by omega
  have HN := Lib.hid (dnew_ok rm H.out (by omega))
  clear hq hk hrm
  go_wp2_with fail
  refine HN.out.mono ?_
  rintro e w2 ⟨p, rfl, h2⟩
  have HRN := Lib.hid (rdnew_spec rm h2 (by omega))
  clear HN h2
  go_wp2_with fail
  refine HRN.out.mono ?_
  rintro e w3 ⟨q, rfl, h3⟩
  have HO := Lib.hid (rdops_spec a1 len1 cap1 ns h3.p2 HV.out.1 HV.out.2)
  clear HRN h3
  go_wp2_with fail
  refine HO.out.mono ?_
  rintro e w4 ⟨J, oa, oc, ops, hIJ, rfl, hol, hor, hok, h4⟩
  obtain ⟨m, hm⟩ : ∃ m, m = ops.length := ⟨_, rfl⟩
  rw [← hm] at hor hol ⊢
  have HOP := Lib.hid (And.intro hm (And.intro hor (And.intro hok hIJ)))
  clear HO hm hor hok hIJ
  go_wp2_with fail
  go_loopw [10] (fun iv' wr => ∃ (i : Nat) (s : DSt), i ≤ m ∧ iv' = .int .i64 (i : Nat) ∧ Sat w wr (sep (isDisk p s) (sep (isRD q s) (sep (kn J) emp)))) (fun iv' _ => m - (intOf iv').toNat)
  case atStart => exact ⟨0, newD rm, by omega, rfl, (h4.p1).p2⟩
  case round =>
    clear h4
    obtain ⟨i, s, hi, rfl, hS⟩ := hrel
    by_cases him : i < m
    · have hio : i < ops.length := by rw [← HOP.out.1]; exact him
      obtain ⟨b, o, vb, vk, rfl, hvb, hvk, hcell⟩ := op_el HOP.out.2.1 i hio
      obtain ⟨op, hop⟩ : ∃ op, op = ops[i] := ⟨_, rfl⟩
      rw [← hop] at hvb hvk
      have hcell2 := hcell
      simp only [← hop] at hcell2
      have hopk : opOK op := by rw [hop]; exact HOP.out.2.2.1 _ (List.getElem_mem hio)
      have hS0 := hcell2 wr.drew hS.drew.p2.ext
      have hS0' := hS0
      obtain ⟨g0, g1, g2, g3, g4⟩ := hS0'
      have HD := Lib.hid (do29_spec p s op vb vk (hS.drew.p2.p1) hvb hvk hopk)
      have HC := Lib.hid hcell2
      have HB := Lib.hid (And.intro hvb (And.intro hvk hopk))
      have himI : (i : Int) < (m : Int) := by omega
      obtain ⟨r, hr⟩ : ∃ r, r = (doD s op).1 := ⟨_, rfl⟩
      obtain ⟨s2, hs2⟩ : ∃ s2, s2 = (doD s op).2 := ⟨_, rfl⟩
      rw [← hr, ← hs2] at HD
      have HE := Lib.hid (And.intro hr hs2)
      clear hcell hcell2 hio hvb hvk hop hopk hS him hr hs2
      go_wp2_with fail
      refine wp_region_canon rfl (fun w' => w'.cell? ⟨b, o + i * 5, none⟩ = some (.int .i64 op.kind) ∧ w'.cell? ⟨b, o + i * 5 + 1, none⟩ = some (.int .i64 op.file) ∧ w'.cell? ⟨b, o + i * 5 + 2, none⟩ = some (.int .i64 op.n) ∧ w'.cell? ⟨b, o + i * 5 + 3, none⟩ = some vb ∧ w'.cell? ⟨b, o + i * 5 + 4, none⟩ = some vk) [(0, .p), (1, .p), (2, .p), (3, .p), (4, .t), (6, .p), (7, .p), (8, .p), (9, .p), (10, .s), (5, .e true), (11, .e false), (12, .p), (13, .p), (14, .p), (15, .p), (16, .e false), (17, .p), (18, .p)] (by kernel_rfl) ?_
      (repeat (first | (refine C_p (v := ?_) rfl rfl (fun w' => ?_) ?_; rotate_left; (go_simp; with_reducible rfl); simp only [Act.put, List.setIfInBounds_toArray, List.set_cons_zero, List.set_cons_succ]) | (refine C_s (v := ?_) rfl rfl hS0 (fun w' hS => ?_) ?_; rotate_left; ((try dsimp only at hS); go_simp; with_reducible rfl); simp only [Act.put, List.setIfInBounds_toArray, List.set_cons_zero, List.set_cons_succ]) | (refine C_t (v := ?_) rfl rfl ?_ ?_; rotate_left; (go_simp; with_reducible rfl); simp only [Act.put, List.setIfInBounds_toArray, List.set_cons_zero, List.set_cons_succ]) | (refine C_po rfl rfl ?_; simp only [Act.put, List.setIfInBounds_toArray, List.set_cons_zero, List.set_cons_succ]) | (refine C_so rfl rfl hS0 ?_; simp only [Act.put, List.setIfInBounds_toArray, List.set_cons_zero, List.set_cons_succ]) | (refine C_to rfl rfl ?_; simp only [Act.put, List.setIfInBounds_toArray, List.set_cons_zero, List.set_cons_succ])))
      (refine C_e rfl rfl (fun K hK => ?_); go_simp)
      refine HD.out.mono ?_
      rintro e w5 ⟨rfl, h5⟩
      clear HD g0 g1 g2 g3 g4 hS0
      have hS0 := HC.out w5 h5.p1.ext
      have HD := Lib.hid (rdo_spec q s op vb vk (h5.p1.p2) HB.out.1 HB.out.2.1 HB.out.2.2)
      rw [← HE.out.1, ← HE.out.2] at HD
      clear h5
      (refine hK _ _ (fun _ => hS0) ?_; clear hK K; (try simp only [Act.put, List.setIfInBounds_toArray, List.set_cons_zero, List.set_cons_succ]))
      (repeat (first | (refine C_p (v := ?_) rfl rfl (fun w' => ?_) ?_; rotate_left; (go_simp; with_reducible rfl); simp only [Act.put, List.setIfInBounds_toArray, List.set_cons_zero, List.set_cons_succ]) | (refine C_s (v := ?_) rfl rfl hS0 (fun w' hS => ?_) ?_; rotate_left; ((try dsimp only at hS); go_simp; with_reducible rfl); simp only [Act.put, List.setIfInBounds_toArray, List.set_cons_zero, List.set_cons_succ]) | (refine C_t (v := ?_) rfl rfl ?_ ?_; rotate_left; (go_simp; with_reducible rfl); simp only [Act.put, List.setIfInBounds_toArray, List.set_cons_zero, List.set_cons_succ]) | (refine C_po rfl rfl ?_; simp only [Act.put, List.setIfInBounds_toArray, List.set_cons_zero, List.set_cons_succ]) | (refine C_so rfl rfl hS0 ?_; simp only [Act.put, List.setIfInBounds_toArray, List.set_cons_zero, List.set_cons_succ]) | (refine C_to rfl rfl ?_; simp only [Act.put, List.setIfInBounds_toArray, List.set_cons_zero, List.set_cons_succ])))
      (refine C_e rfl rfl (fun K hK => ?_); go_simp)
      refine HD.out.mono ?_
      rintro e w6 ⟨rfl, h6⟩
      have h7 : Sat w w6 (sep (isDisk p s2) (sep (isRD q s2) (sep (kn J) emp))) := by
        simpa only [sep_comm, sep_lcomm, sep_assoc] using h6
      have HSM := Lib.hid (same29_spec p q s2 h7)
      clear HD h6 h7 hS0 HE
      (refine hK _ _ (fun h => by cases h) ?_; clear hK K; (try simp only [Act.put, List.setIfInBounds_toArray, List.set_cons_zero, List.set_cons_succ]))
      (repeat (first | (refine C_p (v := ?_) rfl rfl (fun w' => ?_) ?_; rotate_left; (go_simp; with_reducible rfl); simp only [Act.put, List.setIfInBounds_toArray, List.set_cons_zero, List.set_cons_succ]) | (refine C_s (v := ?_) rfl rfl hS0 (fun w' hS => ?_) ?_; rotate_left; ((try dsimp only at hS); go_simp; with_reducible rfl); simp only [Act.put, List.setIfInBounds_toArray, List.set_cons_zero, List.set_cons_succ]) | (refine C_t (v := ?_) rfl rfl ?_ ?_; rotate_left; (go_simp; with_reducible rfl); simp only [Act.put, List.setIfInBounds_toArray, List.set_cons_zero, List.set_cons_succ]) | (refine C_po rfl rfl ?_; simp only [Act.put, List.setIfInBounds_toArray, List.set_cons_zero, List.set_cons_succ]) | (refine C_so rfl rfl hS0 ?_; simp only [Act.put, List.setIfInBounds_toArray, List.set_cons_zero, List.set_cons_succ]) | (refine C_to rfl rfl ?_; simp only [Act.put, List.setIfInBounds_toArray, List.set_cons_zero, List.set_cons_succ])))
      (refine C_e rfl rfl (fun K hK => ?_); go_simp)
      refine HSM.out.mono ?_
      rintro e w7 ⟨rfl, h8⟩
      have H8 := Lib.hid h8
      clear HSM h8
      (refine hK _ _ (fun h => by cases h) ?_; clear hK K; (try simp only [Act.put, List.setIfInBounds_toArray, List.set_cons_zero, List.set_cons_succ]))
      (repeat (first | (refine C_p (v := ?_) rfl rfl (fun w' => ?_) ?_; rotate_left; (go_simp; with_reducible rfl); simp only [Act.put, List.setIfInBounds_toArray, List.set_cons_zero, List.set_cons_succ]) | (refine C_s (v := ?_) rfl rfl hS0 (fun w' hS => ?_) ?_; rotate_left; ((try dsimp only at hS); go_simp; with_reducible rfl); simp only [Act.put, List.setIfInBounds_toArray, List.set_cons_zero, List.set_cons_succ]) | (refine C_t (v := ?_) rfl rfl ?_ ?_; rotate_left; (go_simp; with_reducible rfl); simp only [Act.put, List.setIfInBounds_toArray, List.set_cons_zero, List.set_cons_succ]) | (refine C_po rfl rfl ?_; simp only [Act.put, List.setIfInBounds_toArray, List.set_cons_zero, List.set_cons_succ]) | (refine C_so rfl rfl hS0 ?_; simp only [Act.put, List.setIfInBounds_toArray, List.set_cons_zero, List.set_cons_succ]) | (refine C_to rfl rfl ?_; simp only [Act.put, List.setIfInBounds_toArray, List.set_cons_zero, List.set_cons_succ])))
      refine C_nil ?_
      go_wp2_with fail
      go_roundw
      case rel => exact ⟨i + 1, s2, by omega, rfl, H8.out⟩
      case measure => simp only [intOf]; omega
    · have himI : ¬ (i : Int) < (m : Int) := by omega
      have HS := Lib.hid hS
      clear hS
      go_wp2_with fail
      refine (lives29_spec HS.out).mono ?_
      rintro e w8 ⟨rfl, h8⟩
      go_wp2_with fail
      go_ret
      exact ⟨rfl, h8.below⟩
end Go.Proofs.Ytbniekblkbdidaa
