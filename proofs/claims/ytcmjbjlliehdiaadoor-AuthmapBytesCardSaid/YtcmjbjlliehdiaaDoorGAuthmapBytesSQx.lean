/- plain and own: the pairs of the two packages. -/
import Derived.Test.YtcmjbjlliehdiaaDoorGAuthmapBytesSQw
import Derived.Test.YtcmjbjlliehdiaaDoorGAuthmapBytesSQ11
namespace Go.Proofs.YtcmjbjlliehdiaaDoor
open Go.RowKit PA
attribute [local go_sem] Oper.semAt_some

set_option maxRecDepth 100000 in
set_option maxHeartbeats 8000000 in
theorem plain_spec {W w : World} {A : Assn} {I : Mem} (v : Value) (l : List (Int × List UInt8)) (h : Sat W w (sep (kn I) A)) (hv : (rPairQ.slice 2).rel I [v] l) (hl : l.length ≤ 1000000) :
    Calls Tryd.prog 21 #[v] w fun e w' => ∃ a c J, e = .returned (.slice a l.length c) ∧ Mem.le I J ∧ (rPairQ.slice 2).rel J [.slice a l.length c] l ∧ Sat W w' (sep (kn J) A) := by
  obtain ⟨a, c, rfl, hm1⟩ := pairs_form hv
  obtain ⟨n, hn⟩ : ∃ n, n = l.length := ⟨_, rfl⟩
  rw [← hn] at hv hl ⊢
  have HN := Lib.hid (And.intro hn hv)
  have H := Lib.hid h
  clear h hv hm1 hn
  go_enter Tryd.func21, Tryd.ntmps21
  go_wp2_with fail
  go_loopw [3, 4] (fun ov iv' wr => ∃ (k : Nat) (oa : Option Addr) (oc : Nat) (cells : List Value) (J : Mem), k ≤ n ∧ iv' = .int .i64 (k : Nat) ∧ ov = .slice oa k oc ∧ Hid (Mem.le I J) ∧ Sat W wr (sep (osl 34 2 oa k oc cells) (sep ((rPairQ.rows 2).is cells (l.take k)) (sep (kn J) A)))) (fun _ iv' _ => n - (intOf iv').toNat)
  case atStart =>
    refine ⟨0, none, 0, [], I, by omega, rfl, rfl, Lib.hid (Mem.le_refl _), ?_⟩
    have := (rows_nil rPairQ 2 H.out).osl_nil 34 2
    rw [List.take_zero]
    exact this
  case round =>
    obtain ⟨k, oa, oc, cells, J, hk, rfl, rfl, hIJ, hS⟩ := hrel
    clear H
    by_cases hlt : k < n
    · have k1 : k < l.length := by have := HN.out.1; omega
      obtain ⟨wd, hwd⟩ : ∃ wd, wd = wr.drew := ⟨_, rfl⟩
      have hd := hS.drew
      rw [← hwd] at hd
      obtain ⟨b1, o1, va, vc, rfl, g0, g1, KM, hK, hr, h3⟩ := pair_at (show Sat W wd (sep (kn J) (sep (osl 34 2 oa k oc cells) (sep ((rPairQ.rows 2).is cells (l.take k)) A))) by simpa only [sep_comm, sep_lcomm, sep_assoc] using hd) ((rPairQ.slice 2).mono hIJ.out HN.out.2) k k1
      obtain ⟨x, hx⟩ : ∃ z, z = l[k] := ⟨_, rfl⟩
      rw [← hx] at g0 g1 hr
      have htk : l.take (k + 1) = l.take k ++ [x] := by rw [List.take_succ_eq_append_getElem k1, ← hx]
      obtain ⟨xi, hxi⟩ : ∃ z, z = x.1 := ⟨_, rfl⟩
      obtain ⟨xl, hxl⟩ : ∃ z, z = x.2.length := ⟨_, rfl⟩
      rw [← hxi] at g0
      rw [← hxl] at g1 hr
      have hrp : rPairQ.rel KM [.int .i64 xi, .slice va xl vc] x := ⟨va, vc, by rw [hxi, hxl], by rw [← hxl]; exact hr⟩
      have h4 : Sat W wd (sep (osl 34 2 oa k oc cells) (sep ((rPairQ.rows 2).is cells (l.take k)) (sep (kn KM) A))) := by simpa only [sep_comm, sep_lcomm, sep_assoc] using h3
      have HX := Lib.hid (And.intro htk (And.intro hrp (And.intro (Mem.le_trans hIJ.out hK) h4)))
      clear hx hd hS h3 h4 htk hrp hxi hxl hr hK
      go_wp2_with fail
      refine wp_region_canon rfl (fun _ => True) [(0, .p), (1, .p), (2, .p), (3, .p), (4, .p), (5, .t), (6, .p), (7, .p), (8, .p), (9, .p), (10, .t), (11, .p), (12, .e false), (13, .e false), (14, .p)] (by kernel_rfl) ?_
      rw [← hwd]
      clear hwd
      have hS0 : True := trivial
      (repeat (first | (refine C_p (v := ?_) rfl rfl (fun w' => ?_) ?_; rotate_left; (go_simp; with_reducible rfl); simp only [Act.put, List.setIfInBounds_toArray, List.set_cons_zero, List.set_cons_succ]) | (refine C_s (v := ?_) rfl rfl hS0 (fun w' hS => ?_) ?_; rotate_left; ((try dsimp only at hS); go_simp; with_reducible rfl); simp only [Act.put, List.setIfInBounds_toArray, List.set_cons_zero, List.set_cons_succ]) | (refine C_t (v := ?_) rfl rfl ?_ ?_; rotate_left; (go_simp; with_reducible rfl); simp only [Act.put, List.setIfInBounds_toArray, List.set_cons_zero, List.set_cons_succ]) | (refine C_po rfl rfl ?_; simp only [Act.put, List.setIfInBounds_toArray, List.set_cons_zero, List.set_cons_succ]) | (refine C_so rfl rfl hS0 ?_; simp only [Act.put, List.setIfInBounds_toArray, List.set_cons_zero, List.set_cons_succ]) | (refine C_to rfl rfl ?_; simp only [Act.put, List.setIfInBounds_toArray, List.set_cons_zero, List.set_cons_succ])))
      (refine C_e rfl rfl (fun K hK => ?_); go_simp)
      (refine hK _ _ (fun h => by cases h) ?_; clear hK K; (try simp only [Act.put, List.setIfInBounds_toArray, List.set_cons_zero, List.set_cons_succ]))
      have h5 := HX.out.2.2.2.alloc0 (.cells #[.int .i64 xi, .slice va xl vc] 34)
      clear g0 g1
      refine C_e rfl rfl (fun K hK => ?_)
      refine wp_append_osl (.tmp 11) (.tmp 23) 27 rfl 34 2 32 (.agg #[.int .i64 0, .slice none 0 0]) Tryd.underlying27 infoQPair rfl rfl h5 rfl [.int .i64 xi, .slice va xl vc] rfl (by simp) (by intro b hb; cases hb; exact new_src _ [_, _] _) (by simp [Value.oneCell']) (by omega) (by unfold maxLen; omega) ?_
      intro a2 c2 w2 h6
      have h7 := rowsk_snoc (show Sat W w2 (sep ((rPairQ.rows 2).is cells (l.take k)) (sep (kn KM) (sep (osl 34 2 a2 (k + 1) c2 (cells ++ [.int .i64 xi, .slice va xl vc])) A))) by simpa only [sep_comm, sep_lcomm, sep_assoc] using h6) HX.out.2.1 rfl
      have H7 := Lib.hid h7
      clear h5 h6 h7
      (refine hK _ _ (fun h => by cases h) ?_; clear hK K; (try simp only [Act.put, List.setIfInBounds_toArray, List.set_cons_zero, List.set_cons_succ]))
      (repeat (first | (refine C_p (v := ?_) rfl rfl (fun w' => ?_) ?_; rotate_left; (go_simp; with_reducible rfl); simp only [Act.put, List.setIfInBounds_toArray, List.set_cons_zero, List.set_cons_succ]) | (refine C_s (v := ?_) rfl rfl hS0 (fun w' hS => ?_) ?_; rotate_left; ((try dsimp only at hS); go_simp; with_reducible rfl); simp only [Act.put, List.setIfInBounds_toArray, List.set_cons_zero, List.set_cons_succ]) | (refine C_t (v := ?_) rfl rfl ?_ ?_; rotate_left; (go_simp; with_reducible rfl); simp only [Act.put, List.setIfInBounds_toArray, List.set_cons_zero, List.set_cons_succ]) | (refine C_po rfl rfl ?_; simp only [Act.put, List.setIfInBounds_toArray, List.set_cons_zero, List.set_cons_succ]) | (refine C_so rfl rfl hS0 ?_; simp only [Act.put, List.setIfInBounds_toArray, List.set_cons_zero, List.set_cons_succ]) | (refine C_to rfl rfl ?_; simp only [Act.put, List.setIfInBounds_toArray, List.set_cons_zero, List.set_cons_succ])))
      refine C_nil ?_
      go_wp2_with fail
      go_roundw
      case rel =>
        refine ⟨k + 1, a2, c2, cells ++ [.int .i64 xi, .slice va xl vc], KM, by omega, rfl, rfl, Lib.hid HX.out.2.2.1, ?_⟩
        rw [HX.out.1]
        have := H7.out
        simpa only [sep_comm, sep_lcomm, sep_assoc] using this
      case measure => simp only [intOf]; omega
    · obtain rfl : k = n := by omega
      have htk : l.take k = l := List.take_of_length_le (by rw [HN.out.1]; exact Nat.le_refl _)
      rw [htk] at hS
      have h2 := Sat.slice_of_osl (R := rPairQ) (xs := l) hS HN.out.1
      obtain ⟨K, hK, hr, h3⟩ := h2.learn
      have HF := Lib.hid (And.intro (Mem.le_trans hIJ.out hK) (And.intro hr h3))
      clear hS h2 h3 hr hK htk
      go_wp2_with fail
      go_ret
      exact ⟨oa, oc, K, rfl, HF.out.1, HF.out.2.1, HF.out.2.2⟩

set_option maxRecDepth 100000 in
set_option maxHeartbeats 8000000 in
theorem own_spec {W w : World} {A : Assn} {I : Mem} (v : Value) (l : List (Int × List UInt8)) (h : Sat W w (sep (kn I) A)) (hv : (rPairQ.slice 2).rel I [v] l) (hl : l.length ≤ 1000000) :
    Calls Tryd.prog 40 #[v] w fun e w' => ∃ a c J, e = .returned (.slice a l.length c) ∧ Mem.le I J ∧ (rPairQ.slice 2).rel J [.slice a l.length c] l ∧ Sat W w' (sep (kn J) A) := by
  obtain ⟨a, c, rfl, hm1⟩ := pairs_form hv
  obtain ⟨n, hn⟩ : ∃ n, n = l.length := ⟨_, rfl⟩
  rw [← hn] at hv hl ⊢
  have HN := Lib.hid (And.intro hn hv)
  have H := Lib.hid h
  clear h hv hm1 hn
  go_enter Tryd.func40, Tryd.ntmps40
  go_wp2_with fail
  go_loopw [3, 4] (fun ov iv' wr => ∃ (k : Nat) (oa : Option Addr) (oc : Nat) (cells : List Value) (J : Mem), k ≤ n ∧ iv' = .int .i64 (k : Nat) ∧ ov = .slice oa k oc ∧ Hid (Mem.le I J) ∧ Sat W wr (sep (osl 84 2 oa k oc cells) (sep ((rPairQ.rows 2).is cells (l.take k)) (sep (kn J) A)))) (fun _ iv' _ => n - (intOf iv').toNat)
  case atStart =>
    refine ⟨0, none, 0, [], I, by omega, rfl, rfl, Lib.hid (Mem.le_refl _), ?_⟩
    have := (rows_nil rPairQ 2 H.out).osl_nil 84 2
    rw [List.take_zero]
    exact this
  case round =>
    obtain ⟨k, oa, oc, cells, J, hk, rfl, rfl, hIJ, hS⟩ := hrel
    clear H
    by_cases hlt : k < n
    · have k1 : k < l.length := by have := HN.out.1; omega
      obtain ⟨wd, hwd⟩ : ∃ wd, wd = wr.drew := ⟨_, rfl⟩
      have hd := hS.drew
      rw [← hwd] at hd
      obtain ⟨b1, o1, va, vc, rfl, g0, g1, KM, hK, hr, h3⟩ := pair_at (show Sat W wd (sep (kn J) (sep (osl 84 2 oa k oc cells) (sep ((rPairQ.rows 2).is cells (l.take k)) A))) by simpa only [sep_comm, sep_lcomm, sep_assoc] using hd) ((rPairQ.slice 2).mono hIJ.out HN.out.2) k k1
      obtain ⟨x, hx⟩ : ∃ z, z = l[k] := ⟨_, rfl⟩
      rw [← hx] at g0 g1 hr
      have htk : l.take (k + 1) = l.take k ++ [x] := by rw [List.take_succ_eq_append_getElem k1, ← hx]
      obtain ⟨xi, hxi⟩ : ∃ z, z = x.1 := ⟨_, rfl⟩
      obtain ⟨xl, hxl⟩ : ∃ z, z = x.2.length := ⟨_, rfl⟩
      rw [← hxi] at g0
      rw [← hxl] at g1 hr
      have hrp : rPairQ.rel KM [.int .i64 xi, .slice va xl vc] x := ⟨va, vc, by rw [hxi, hxl], by rw [← hxl]; exact hr⟩
      have h4 : Sat W wd (sep (osl 84 2 oa k oc cells) (sep ((rPairQ.rows 2).is cells (l.take k)) (sep (kn KM) A))) := by simpa only [sep_comm, sep_lcomm, sep_assoc] using h3
      have HX := Lib.hid (And.intro htk (And.intro hrp (And.intro (Mem.le_trans hIJ.out hK) h4)))
      clear hx hd hS h3 h4 htk hrp hxi hxl hr hK
      go_wp2_with fail
      refine wp_region_canon rfl (fun _ => True) [(0, .p), (1, .p), (2, .p), (3, .p), (4, .p), (5, .t), (6, .p), (7, .p), (8, .p), (9, .p), (10, .t), (11, .p), (12, .e false), (13, .e false), (14, .p)] (by kernel_rfl) ?_
      rw [← hwd]
      clear hwd
      have hS0 : True := trivial
      (repeat (first | (refine C_p (v := ?_) rfl rfl (fun w' => ?_) ?_; rotate_left; (go_simp; with_reducible rfl); simp only [Act.put, List.setIfInBounds_toArray, List.set_cons_zero, List.set_cons_succ]) | (refine C_s (v := ?_) rfl rfl hS0 (fun w' hS => ?_) ?_; rotate_left; ((try dsimp only at hS); go_simp; with_reducible rfl); simp only [Act.put, List.setIfInBounds_toArray, List.set_cons_zero, List.set_cons_succ]) | (refine C_t (v := ?_) rfl rfl ?_ ?_; rotate_left; (go_simp; with_reducible rfl); simp only [Act.put, List.setIfInBounds_toArray, List.set_cons_zero, List.set_cons_succ]) | (refine C_po rfl rfl ?_; simp only [Act.put, List.setIfInBounds_toArray, List.set_cons_zero, List.set_cons_succ]) | (refine C_so rfl rfl hS0 ?_; simp only [Act.put, List.setIfInBounds_toArray, List.set_cons_zero, List.set_cons_succ]) | (refine C_to rfl rfl ?_; simp only [Act.put, List.setIfInBounds_toArray, List.set_cons_zero, List.set_cons_succ])))
      (refine C_e rfl rfl (fun K hK => ?_); go_simp)
      (refine hK _ _ (fun h => by cases h) ?_; clear hK K; (try simp only [Act.put, List.setIfInBounds_toArray, List.set_cons_zero, List.set_cons_succ]))
      have h5 := HX.out.2.2.2.alloc0 (.cells #[.int .i64 xi, .slice va xl vc] 84)
      clear g0 g1
      refine C_e rfl rfl (fun K hK => ?_)
      refine wp_append_osl (.tmp 11) (.tmp 23) 37 rfl 84 2 32 (.agg #[.int .i64 0, .slice none 0 0]) Tryd.underlying37 infoPair rfl rfl h5 rfl [.int .i64 xi, .slice va xl vc] rfl (by simp) (by intro b hb; cases hb; exact new_src _ [_, _] _) (by simp [Value.oneCell']) (by omega) (by unfold maxLen; omega) ?_
      intro a2 c2 w2 h6
      have h7 := rowsk_snoc (show Sat W w2 (sep ((rPairQ.rows 2).is cells (l.take k)) (sep (kn KM) (sep (osl 84 2 a2 (k + 1) c2 (cells ++ [.int .i64 xi, .slice va xl vc])) A))) by simpa only [sep_comm, sep_lcomm, sep_assoc] using h6) HX.out.2.1 rfl
      have H7 := Lib.hid h7
      clear h5 h6 h7
      (refine hK _ _ (fun h => by cases h) ?_; clear hK K; (try simp only [Act.put, List.setIfInBounds_toArray, List.set_cons_zero, List.set_cons_succ]))
      (repeat (first | (refine C_p (v := ?_) rfl rfl (fun w' => ?_) ?_; rotate_left; (go_simp; with_reducible rfl); simp only [Act.put, List.setIfInBounds_toArray, List.set_cons_zero, List.set_cons_succ]) | (refine C_s (v := ?_) rfl rfl hS0 (fun w' hS => ?_) ?_; rotate_left; ((try dsimp only at hS); go_simp; with_reducible rfl); simp only [Act.put, List.setIfInBounds_toArray, List.set_cons_zero, List.set_cons_succ]) | (refine C_t (v := ?_) rfl rfl ?_ ?_; rotate_left; (go_simp; with_reducible rfl); simp only [Act.put, List.setIfInBounds_toArray, List.set_cons_zero, List.set_cons_succ]) | (refine C_po rfl rfl ?_; simp only [Act.put, List.setIfInBounds_toArray, List.set_cons_zero, List.set_cons_succ]) | (refine C_so rfl rfl hS0 ?_; simp only [Act.put, List.setIfInBounds_toArray, List.set_cons_zero, List.set_cons_succ]) | (refine C_to rfl rfl ?_; simp only [Act.put, List.setIfInBounds_toArray, List.set_cons_zero, List.set_cons_succ])))
      refine C_nil ?_
      go_wp2_with fail
      go_roundw
      case rel =>
        refine ⟨k + 1, a2, c2, cells ++ [.int .i64 xi, .slice va xl vc], KM, by omega, rfl, rfl, Lib.hid HX.out.2.2.1, ?_⟩
        rw [HX.out.1]
        have := H7.out
        simpa only [sep_comm, sep_lcomm, sep_assoc] using this
      case measure => simp only [intOf]; omega
    · obtain rfl : k = n := by omega
      have htk : l.take k = l := List.take_of_length_le (by rw [HN.out.1]; exact Nat.le_refl _)
      rw [htk] at hS
      have h2 := Sat.slice_of_osl (R := rPairQ) (xs := l) hS HN.out.1
      obtain ⟨K, hK, hr, h3⟩ := h2.learn
      have HF := Lib.hid (And.intro (Mem.le_trans hIJ.out hK) (And.intro hr h3))
      clear hS h2 h3 hr hK htk
      go_wp2_with fail
      go_ret
      exact ⟨oa, oc, K, rfl, HF.out.1, HF.out.2.1, HF.out.2.2⟩
end Go.Proofs.YtcmjbjlliehdiaaDoor
