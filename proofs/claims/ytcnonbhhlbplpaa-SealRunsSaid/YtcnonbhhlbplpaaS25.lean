/- The reference's box: Sealed, Commitments. -/
import Derived.Test.YtcnonbhhlbplpaaS24
namespace Go.Proofs.Ytcnonbhhlbplpaa
open Go.RowKit PA
theorem sldL_snoc (L : EntL) (i : Nat) (hi : i < L.length) : sldL (L.take (i + 1)) = if L[i].2.o then sldL (L.take i) else sldL (L.take i) ++ [L[i].1] := by
  rw [List.take_succ_eq_append_getElem hi, sldL, List.filter_append, List.map_append]
  cases h : L[i].2.o <;> simp [sldL, h]
theorem cmsL_snoc (L : EntL) (i : Nat) (hi : i < L.length) : cmsL (L.take (i + 1)) = cmsL (L.take i) ++ [commitN L[i].2.b L[i].2.s] := by
  rw [List.take_succ_eq_append_getElem hi, cmsL, List.map_append]; rfl
theorem sldL_len (L : EntL) : (sldL L).length ≤ L.length := by
  unfold sldL
  rw [List.length_map]
  exact List.length_filter_le _ _
theorem infoIntS : (Try.prog.info? 3).map (fun i => (i.zero, i.size, i.bytes)) = some (some (.int .i64 0), 1, 8) := by kernel_rfl
set_option maxRecDepth 100000 in
set_option maxHeartbeats 4000000 in
theorem rssealed_spec {W w : World} {A : Assn} (q : Nat) (L : EntL) (h : Sat W w (sep (isRBox q L) A)) (hl : L.length ≤ 4000) :
    Calls Try.prog 27 #[.pointer (some ⟨q, 0, none⟩)] w fun e w' => ∃ a c, e = .returned (.slice a (sldL L).length c) ∧ Sat W w' (sep (osl 3 1 a (sldL L).length c ((sldL L).map iv)) (sep (isRBox q L) A)) := by
  obtain ⟨n, hn⟩ : ∃ n, n = L.length := ⟨_, rfl⟩
  have HN := Lib.hid hn
  have hnl : n ≤ 4000 := by omega
  clear hn hl
  go_enter Try.func27, Try.ntmps27
  go_wp2
  go_loopw [3, 4] (fun ov iv' wr => ∃ (i m : Nat) (a : Option Addr) (c : Nat) (vs : List Value), i ≤ n ∧ m ≤ i ∧ iv' = .int .i64 (i : Nat) ∧ ov = .slice a m c ∧ Hid (m = (sldL (L.take i)).length ∧ vs = (sldL (L.take i)).map iv) ∧ Sat W wr (sep (osl 3 1 a m c vs) (sep (isRBox q L) A))) (fun _ iv' _ => n - (intOf iv').toNat)
  case atStart => exact ⟨0, 0, none, 0, [], by omega, by omega, rfl, rfl, Lib.hid ⟨rfl, rfl⟩, h.osl_nil _ _⟩
  case round =>
    clear h
    obtain ⟨i, m, a, c, vs, hi, hm, rfl, rfl, HV, hS⟩ := hrel
    obtain ⟨ra, rc, cells, h0⟩ := isRBox_open hS.p1
    have c0 : wr.cell? ⟨q, 0, none⟩ = some (.slice ra n rc) := by rw [HN.out]; exact h0.cell 0
    by_cases hin : i < n
    · have hiL : i < L.length := by rw [← HN.out]; exact hin
      obtain ⟨g, b, d, rfl, g0, g1, g2, g3, -⟩ := rbox_cells h0.p1.p2.p1 i hiL
      have hsn := sldL_snoc L i hiL
      obtain ⟨x, hx⟩ : ∃ x, x = L[i].1 := ⟨_, rfl⟩
      obtain ⟨o, ho⟩ : ∃ o, o = L[i].2.o := ⟨_, rfl⟩
      rw [← hx] at g0 hsn
      rw [← ho] at g3 hsn
      have hinI : (i : Int) < (n : Int) := by omega
      have H := Lib.hid hS
      have HSN := Lib.hid hsn
      clear hS h0 hx ho hin hsn g1 g2
      cases o with
      | true =>
        go_wp2_with fail
        go_roundw
        case rel =>
          have := HSN.out
          rw [if_pos rfl] at this
          exact ⟨i + 1, m, a, c, vs, by omega, by omega, rfl, rfl, Lib.hid (by rw [this]; exact HV.out), H.out⟩
        case measure => simp only [intOf]; omega
      | false =>
        have h5 := lit_osl (E := 3) H.out [.int .i64 x] 1 rfl (by unfold maxLen; omega)
        have hsrc := h5.osl_Src
        have HSRC := Lib.hid hsrc
        have h6 : Sat W (wr.alloc (.cells #[.int .i64 x] 3)) (sep (osl 3 1 a m c vs) (sep (isRBox q L) A)) := h5.forget_osl
        clear h5 hsrc H
        go_wp2_with (at_builtin; refine wpl_append_osl rfl (.tmp 23) (.tmp 32) 32 rfl 3 1 8 (.int .i64 0) Try.underlying32 infoIntS rfl rfl h6 rfl [.int .i64 x] rfl (fun e => by cases e) HSRC.out (by intro u hu; simp at hu; subst hu; rfl) (by omega) (by unfold maxLen; omega) ?_)
        intro a5 c5 w5 h7
        have H7 := Lib.hid h7
        clear h6 h7 HSRC
        go_wp2_with fail
        go_roundw
        case rel =>
          have := HSN.out
          rw [if_neg (by simp)] at this
          exact ⟨i + 1, m + 1, a5, c5, _, by omega, by omega, rfl, rfl, Lib.hid (by rw [this, List.length_append, List.map_append, HV.out.1, HV.out.2]; exact ⟨rfl, rfl⟩), H7.out⟩
        case measure => simp only [intOf]; omega
    · have hinI : ¬ (i : Int) < (n : Int) := by omega
      obtain rfl : i = n := by omega
      have H := Lib.hid hS
      clear hS h0
      go_wp2_with fail
      go_ret
      have e : L.take i = L := by rw [HN.out]; exact List.take_length
      have h1 := HV.out.1
      have h2 := HV.out.2
      rw [e] at h1 h2
      subst h1 h2
      exact ⟨a, c, rfl, H.out⟩
set_option maxRecDepth 100000 in
set_option maxHeartbeats 4000000 in
theorem rscommitments_spec {W w : World} {A : Assn} (q : Nat) (L : EntL) (h : Sat W w (sep (isRBox q L) A)) (hl : L.length ≤ 4000) (hb : ∀ x ∈ L, x.2.b.length ≤ 65536) :
    Calls Try.prog 28 #[.pointer (some ⟨q, 0, none⟩)] w fun e w' => ∃ a c, e = .returned (.slice a (cmsL L).length c) ∧ Sat W w' (sep (osl 22 1 a (cmsL L).length c ((cmsL L).map uv)) (sep (isRBox q L) A)) := by
  obtain ⟨n, hn⟩ : ∃ n, n = L.length := ⟨_, rfl⟩
  have HN := Lib.hid hn
  have HB := Lib.hid hb
  have hnl : n ≤ 4000 := by omega
  clear hn hl hb
  go_enter Try.func28, Try.ntmps28
  go_wp2
  go_loopw [3, 4] (fun ov iv' wr => ∃ (i : Nat) (a : Option Addr) (c : Nat) (vs : List Value), i ≤ n ∧ iv' = .int .i64 (i : Nat) ∧ ov = .slice a i c ∧ Hid (vs = (cmsL (L.take i)).map uv) ∧ Sat W wr (sep (osl 22 1 a i c vs) (sep (isRBox q L) A))) (fun _ iv' _ => n - (intOf iv').toNat)
  case atStart => exact ⟨0, none, 0, [], by omega, rfl, rfl, Lib.hid rfl, h.osl_nil _ _⟩
  case round =>
    clear h
    obtain ⟨i, a, c, vs, hi, rfl, rfl, HV, hS⟩ := hrel
    obtain ⟨ra, rc, cells, h0⟩ := isRBox_open hS.p1
    have c0 : wr.cell? ⟨q, 0, none⟩ = some (.slice ra n rc) := by rw [HN.out]; exact h0.cell 0
    by_cases hin : i < n
    · have hiL : i < L.length := by rw [← HN.out]; exact hin
      obtain ⟨g, b, d, rfl, g0, g1, g2, g3, h1⟩ := rbox_cells h0.p1.p2.p1 i hiL
      have hsn := cmsL_snoc L i hiL
      have hbl := HB.out _ (List.getElem_mem hiL)
      obtain ⟨⟨k, en⟩, hx⟩ : ∃ x, x = L[i] := ⟨_, rfl⟩
      rw [← hx] at g1 g2 hsn h1 hbl
      dsimp only at g1 g2 hsn h1 hbl
      obtain ⟨bs, s, o⟩ := en
      dsimp only at g1 g2 hsn h1 hbl
      obtain ⟨bl, hbl2⟩ : ∃ bl, bl = bs.length := ⟨_, rfl⟩
      rw [← hbl2] at g1 h1
      obtain ⟨I, h2⟩ := h1.know
      obtain ⟨J, hIJ, hrb, h3⟩ := (show Sat W wr (sep (rBytes.is [.slice b bl d] bs) (sep (kn I) (sep (blk q (.cells (rbC (some ⟨g, 0, none⟩) L.length rc) 52 (0, 0))) (sep (osl 79 4 (some ⟨g, 0, none⟩) L.length rc cells) (sep ((rEnt.rows 4).is cells L) (sep (osl 22 1 a i c vs) A)))))) by
        simpa only [sep_comm, sep_lcomm, sep_assoc] using h2).learn
      have h4 := isRBox_mk rfl (show Sat W wr (sep (blk q (.cells (rbC (some ⟨g, 0, none⟩) L.length rc) 52 (0, 0))) (sep (osl 79 4 (some ⟨g, 0, none⟩) L.length rc cells) (sep ((rEnt.rows 4).is cells L) (sep (kn J) (sep (osl 22 1 a i c vs) A))))) by simpa only [sep_comm, sep_lcomm, sep_assoc] using h3)
      obtain ⟨cm, hcm⟩ : ∃ cm, cm = commitN bs s := ⟨_, rfl⟩
      have hco := rcommit_spec (.slice b bl d) bs s (w := wr.drew) (show Sat W wr.drew (sep (kn J) (sep (osl 22 1 a i c vs) (sep (isRBox q L) A))) by have := h4.drew; simpa only [sep_comm, sep_lcomm, sep_assoc] using this) hrb (by omega)
      rw [← hcm] at hco hsn
      have HCO := Lib.hid hco
      have HSN := Lib.hid hsn
      have hinI : (i : Int) < (n : Int) := by omega
      have hS0 : True := trivial
      clear hS h0 h1 h2 h3 h4 hx hin hsn hbl hbl2 hrb hIJ hcm hco g0 g3
      go_wp2_with fail
      refine wp_region_canon rfl (fun _ => True) [(0, .p), (1, .p), (2, .p), (3, .p), (4, .t), (5, .p), (6, .p), (7, .p), (8, .t), (9, .p), (10, .p), (11, .p), (12, .t), (13, .p), (14, .p), (15, .p), (16, .t), (17, .e false), (18, .e false), (19, .e false), (20, .p)] (by kernel_rfl) ?_
      (repeat (first | (refine C_p (v := ?_) rfl rfl (fun w' => ?_) ?_; rotate_left; (go_simp; with_reducible rfl); simp only [Act.put, List.setIfInBounds_toArray, List.set_cons_zero, List.set_cons_succ]) | (refine C_s (v := ?_) rfl rfl hS0 (fun w' hS => ?_) ?_; rotate_left; ((try dsimp only at hS); go_simp; with_reducible rfl); simp only [Act.put, List.setIfInBounds_toArray, List.set_cons_zero, List.set_cons_succ]) | (refine C_t (v := ?_) rfl rfl ?_ ?_; rotate_left; (go_simp; with_reducible rfl); simp only [Act.put, List.setIfInBounds_toArray, List.set_cons_zero, List.set_cons_succ]) | (refine C_po rfl rfl ?_; simp only [Act.put, List.setIfInBounds_toArray, List.set_cons_zero, List.set_cons_succ]) | (refine C_so rfl rfl hS0 ?_; simp only [Act.put, List.setIfInBounds_toArray, List.set_cons_zero, List.set_cons_succ]) | (refine C_to rfl rfl ?_; simp only [Act.put, List.setIfInBounds_toArray, List.set_cons_zero, List.set_cons_succ])))
      (refine C_e rfl rfl (fun K hK => ?_); go_simp)
      refine HCO.out.mono ?_
      rintro e w2 ⟨rfl, h5⟩
      have h6 := h5.drop
      have h7 := lit_osl (E := 22) h6 [.int .u64 (cm : Nat)] 1 rfl (by unfold maxLen; omega)
      have hsrc := h7.osl_Src
      have h8 : Sat W (w2.alloc (.cells #[.int .u64 (cm : Nat)] 22)) (sep (osl 22 1 a i c vs) (sep (isRBox q L) A)) := h7.forget_osl
      have HSRC := Lib.hid hsrc
      have H8 := Lib.hid h8
      clear h5 h6 h7 h8 hsrc HCO g1 g2 c0
      (refine hK _ _ (fun h => by cases h) ?_; clear hK K; (try simp only [Act.put, List.setIfInBounds_toArray, List.set_cons_zero, List.set_cons_succ]))
      (refine C_e rfl rfl (fun K hK => ?_); go_simp)
      (refine hK _ _ (fun h => by cases h) ?_; clear hK K; (try simp only [Act.put, List.setIfInBounds_toArray, List.set_cons_zero, List.set_cons_succ]))
      refine C_e rfl rfl (fun K hK => ?_)
      refine wp_append_osl (.tmp 14) (.tmp 32) 30 rfl 22 1 8 (.int .u64 0) Try.underlying30 infoU64s rfl rfl H8.out rfl [.int .u64 (cm : Nat)] rfl (fun e => by cases e) HSRC.out (by intro u hu; simp at hu; subst hu; rfl) (by omega) (by unfold maxLen; omega) ?_
      intro a5 c5 w5 h7
      have H7 := Lib.hid h7
      clear h7 HSRC H8
      (refine hK _ _ (fun h => by cases h) ?_; clear hK K; (try simp only [Act.put, List.setIfInBounds_toArray, List.set_cons_zero, List.set_cons_succ]))
      (repeat (first | (refine C_p (v := ?_) rfl rfl (fun w' => ?_) ?_; rotate_left; (go_simp; with_reducible rfl); simp only [Act.put, List.setIfInBounds_toArray, List.set_cons_zero, List.set_cons_succ]) | (refine C_s (v := ?_) rfl rfl hS0 (fun w' hS => ?_) ?_; rotate_left; ((try dsimp only at hS); go_simp; with_reducible rfl); simp only [Act.put, List.setIfInBounds_toArray, List.set_cons_zero, List.set_cons_succ]) | (refine C_t (v := ?_) rfl rfl ?_ ?_; rotate_left; (go_simp; with_reducible rfl); simp only [Act.put, List.setIfInBounds_toArray, List.set_cons_zero, List.set_cons_succ]) | (refine C_po rfl rfl ?_; simp only [Act.put, List.setIfInBounds_toArray, List.set_cons_zero, List.set_cons_succ]) | (refine C_so rfl rfl hS0 ?_; simp only [Act.put, List.setIfInBounds_toArray, List.set_cons_zero, List.set_cons_succ]) | (refine C_to rfl rfl ?_; simp only [Act.put, List.setIfInBounds_toArray, List.set_cons_zero, List.set_cons_succ])))
      refine C_nil ?_
      go_wp2_with fail
      go_roundw
      case rel => exact ⟨i + 1, a5, c5, _, by omega, rfl, rfl, Lib.hid (by rw [HSN.out, List.map_append, HV.out]; rfl), H7.out⟩
      case measure => simp only [intOf]; omega
    · have hinI : ¬ (i : Int) < (n : Int) := by omega
      obtain rfl : i = n := by omega
      have H := Lib.hid hS
      clear hS h0
      go_wp2_with fail
      go_ret
      have e : L.take i = L := by rw [HN.out]; exact List.take_length
      have h2 := HV.out
      rw [e] at h2
      subst h2
      have h3 : i = (cmsL L).length := by rw [HN.out, cmsL, List.length_map]
      subst h3
      exact ⟨a, c, rfl, H.out⟩
end Go.Proofs.Ytcnonbhhlbplpaa
