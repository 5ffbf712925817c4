/- plain and own: the pairs of the two packages. -/
import Derived.Test.YtcmjbjlliehdiaaDoorGAuthmapChecksSQw
import Derived.Test.YtcmjbjlliehdiaaDoorGAuthmapChecksSQ11
import Derived.Test.YtcmjbjlliehdiaaDoorGAuthmapChecksSQs
import Derived.Test.YtcmjbjlliehdiaaDoorGAuthmapChecks20
namespace Go.Proofs.YtcmjbjlliehdiaaDoor
open Go.RowKit PA
attribute [local go_sem] Oper.semAt_some

set_option maxRecDepth 100000 in
set_option maxHeartbeats 8000000 in
theorem plain_spec {W w : World} {A : Assn} {I : Mem} (v : Value) (l : List (Int × List UInt8)) (h : Sat W w (sep (kn I) A)) (hv : (rPairQ.slice 2).rel I [v] l) (hl : l.length ≤ 1000000) :
    Calls Tryd.prog 21 #[v] w fun e w' => ∃ a c J, e = .returned (.slice a l.length c) ∧ Mem.le I J ∧ (rPairQ.slice 2).rel J [.slice a l.length c] l ∧ Sat W w' (sep (kn J) A) := by
  obtain ⟨a, c, rfl, hm1⟩ := pairs_form hv
  obtain ⟨n, hn⟩ : ∃ n, n = l.length := ⟨_, rfl⟩
  rw [← hn] at hv hl ⊢
  have HN := Lib.hid (And.intro hn hv)
  have H := Lib.hid h
  clear h hv hm1 hn
  go_enter Tryd.func21, Tryd.ntmps21
  go_wp2_with fail
  go_loopw [3, 4] (fun ov iv' wr => ∃ (k : Nat) (oa : Option Addr) (oc : Nat) (cells : List Value) (J : Mem), k ≤ n ∧ iv' = .int .i64 (k : Nat) ∧ ov = .slice oa k oc ∧ Hid (Mem.le I J) ∧ Sat W wr (sep (osl 34 2 oa k oc cells) (sep ((rPairQ.rows 2).is cells (l.take k)) (sep (kn J) A)))) (fun _ iv' _ => n - (intOf iv').toNat)
  case atStart =>
    refine ⟨0, none, 0, [], I, by omega, rfl, rfl, Lib.hid (Mem.le_refl _), ?_⟩
    have := (rows_nil rPairQ 2 H.out).osl_nil 34 2
    rw [List.take_zero]
    exact this
  case round =>
    obtain ⟨k, oa, oc, cells, J, hk, rfl, rfl, hIJ, hS⟩ := hrel
    clear H
    by_cases hlt : k < n
    · have k1 : k < l.length := by have := HN.out.1; omega
      obtain ⟨wd, hwd⟩ : ∃ wd, wd = wr.drew := ⟨_, rfl⟩
      have hd := hS.drew
      rw [← hwd] at hd
      obtain ⟨b1, o1, va, vc, rfl, g0, g1, KM, hK, hr, h3⟩ := pair_at (show Sat W wd (sep (kn J) (sep (osl 34 2 oa k oc cells) (sep ((rPairQ.rows 2).is cells (l.take k)) A))) by simpa only [sep_comm, sep_lcomm, sep_assoc] using hd) ((rPairQ.slice 2).mono hIJ.out HN.out.2) k k1
      obtain ⟨x, hx⟩ : ∃ z, z = l[k] := ⟨_, rfl⟩
      rw [← hx] at g0 g1 hr
      have htk : l.take (k + 1) = l.take k ++ [x] := by rw [List.take_succ_eq_append_getElem k1, ← hx]
      obtain ⟨xi, hxi⟩ : ∃ z, z = x.1 := ⟨_, rfl⟩
      obtain ⟨xl, hxl⟩ : ∃ z, z = x.2.length := ⟨_, rfl⟩
      rw [← hxi] at g0
      rw [← hxl] at g1 hr
      have hrp : rPairQ.rel KM [.int .i64 xi, .slice va xl vc] x := ⟨va, vc, by rw [hxi, hxl], by rw [← hxl]; exact hr⟩
      have h4 : Sat W wd (sep (osl 34 2 oa k oc cells) (sep ((rPairQ.rows 2).is cells (l.take k)) (sep (kn KM) A))) := by simpa only [sep_comm, sep_lcomm, sep_assoc] using h3
      have HX := Lib.hid (And.intro htk (And.intro hrp (And.intro (Mem.le_trans hIJ.out hK) h4)))
      clear hx hd hS h3 h4 htk hrp hxi hxl hr hK
      go_wp2_with fail
      refine wp_region_canon rfl (fun _ => True) [(0, .p), (1, .p), (2, .p), (3, .p), (4, .p), (5, .t), (6, .p), (7, .p), (8, .p), (9, .p), (10, .t), (11, .p), (12, .e false), (13, .e false), (14, .p)] (by kernel_rfl) ?_
      rw [← hwd]
      clear hwd
      have hS0 : True := trivial
      (repeat ((first | (refine C_p (v := ?_) rfl rfl (fun w' => ?_) ?_; rotate_left; (go_simp; with_reducible rfl)) | (refine C_s (v := ?_) rfl rfl hS0 (fun w' hS => ?_) ?_; rotate_left; ((try dsimp only at hS); go_simp; with_reducible rfl)) | (refine C_t (v := ?_) rfl rfl ?_ ?_; rotate_left; (go_simp; with_reducible rfl)) | (refine C_po rfl rfl ?_) | (refine C_so rfl rfl hS0 ?_) | (refine C_to rfl rfl ?_)); simp only [Act.put, List.setIfInBounds_toArray, List.set_cons_zero, List.set_cons_succ]))
      (refine C_e rfl rfl (fun K hK => ?_); go_simp)
      (refine hK _ _ (fun h => by cases h) ?_; clear hK K; (try simp only [Act.put, List.setIfInBounds_toArray, List.set_cons_zero, List.set_cons_succ]))
      have h5 := HX.out.2.2.2.alloc0 (.cells #[.int .i64 xi, .slice va xl vc] 34)
      clear g0 g1
      refine C_e rfl rfl (fun K hK => ?_)
      refine wp_append_osl (.tmp 11) (.tmp 23) 27 rfl 34 2 32 (.agg #[.int .i64 0, .slice none 0 0]) Tryd.underlying27 infoQPair rfl rfl h5 rfl [.int .i64 xi, .slice va xl vc] rfl (by simp) (by intro b hb; cases hb; exact new_src _ [_, _] _) (by simp [Value.oneCell']) (by omega) (by unfold maxLen; omega) ?_
      intro a2 c2 w2 h6
      have h7 := rowsk_snoc (show Sat W w2 (sep ((rPairQ.rows 2).is cells (l.take k)) (sep (kn KM) (sep (osl 34 2 a2 (k + 1) c2 (cells ++ [.int .i64 xi, .slice va xl vc])) A))) by simpa only [sep_comm, sep_lcomm, sep_assoc] using h6) HX.out.2.1 rfl
      have H7 := Lib.hid h7
      clear h5 h6 h7
      (refine hK _ _ (fun h => by cases h) ?_; clear hK K; (try simp only [Act.put, List.setIfInBounds_toArray, List.set_cons_zero, List.set_cons_succ]))
      (repeat ((first | (refine C_p (v := ?_) rfl rfl (fun w' => ?_) ?_; rotate_left; (go_simp; with_reducible rfl)) | (refine C_s (v := ?_) rfl rfl hS0 (fun w' hS => ?_) ?_; rotate_left; ((try dsimp only at hS); go_simp; with_reducible rfl)) | (refine C_t (v := ?_) rfl rfl ?_ ?_; rotate_left; (go_simp; with_reducible rfl)) | (refine C_po rfl rfl ?_) | (refine C_so rfl rfl hS0 ?_) | (refine C_to rfl rfl ?_)); simp only [Act.put, List.setIfInBounds_toArray, List.set_cons_zero, List.set_cons_succ]))
      refine C_nil ?_
      go_wp2_with fail
      go_roundw
      case rel =>
        refine ⟨k + 1, a2, c2, cells ++ [.int .i64 xi, .slice va xl vc], KM, by omega, rfl, rfl, Lib.hid HX.out.2.2.1, ?_⟩
        rw [HX.out.1]
        have := H7.out
        simpa only [sep_comm, sep_lcomm, sep_assoc] using this
      case measure => simp only [intOf]; omega
    · obtain rfl : k = n := by omega
      have htk : l.take k = l := List.take_of_length_le (by rw [HN.out.1]; exact Nat.le_refl _)
      rw [htk] at hS
      have h2 := Sat.slice_of_osl (R := rPairQ) (xs := l) hS HN.out.1
      obtain ⟨K, hK, hr, h3⟩ := h2.learn
      have HF := Lib.hid (And.intro (Mem.le_trans hIJ.out hK) (And.intro hr h3))
      clear hS h2 h3 hr hK htk
      go_wp2_with fail
      go_ret
      exact ⟨oa, oc, K, rfl, HF.out.1, HF.out.2.1, HF.out.2.2⟩

set_option maxRecDepth 100000 in
set_option maxHeartbeats 8000000 in
theorem own_spec {W w : World} {A : Assn} {I : Mem} (v : Value) (l : List (Int × List UInt8)) (h : Sat W w (sep (kn I) A)) (hv : (rPairQ.slice 2).rel I [v] l) (hl : l.length ≤ 1000000) :
    Calls Tryd.prog 40 #[v] w fun e w' => ∃ a c J, e = .returned (.slice a l.length c) ∧ Mem.le I J ∧ (rPairQ.slice 2).rel J [.slice a l.length c] l ∧ Sat W w' (sep (kn J) A) := by
  obtain ⟨a, c, rfl, hm1⟩ := pairs_form hv
  obtain ⟨n, hn⟩ : ∃ n, n = l.length := ⟨_, rfl⟩
  rw [← hn] at hv hl ⊢
  have HN := Lib.hid (And.intro hn hv)
  have H := Lib.hid h
  clear h hv hm1 hn
  go_enter Tryd.func40, Tryd.ntmps40
  go_wp2_with fail
  go_loopw [3, 4] (fun ov iv' wr => ∃ (k : Nat) (oa : Option Addr) (oc : Nat) (cells : List Value) (J : Mem), k ≤ n ∧ iv' = .int .i64 (k : Nat) ∧ ov = .slice oa k oc ∧ Hid (Mem.le I J) ∧ Sat W wr (sep (osl 84 2 oa k oc cells) (sep ((rPairQ.rows 2).is cells (l.take k)) (sep (kn J) A)))) (fun _ iv' _ => n - (intOf iv').toNat)
  case atStart =>
    refine ⟨0, none, 0, [], I, by omega, rfl, rfl, Lib.hid (Mem.le_refl _), ?_⟩
    have := (rows_nil rPairQ 2 H.out).osl_nil 84 2
    rw [List.take_zero]
    exact this
  case round =>
    obtain ⟨k, oa, oc, cells, J, hk, rfl, rfl, hIJ, hS⟩ := hrel
    clear H
    by_cases hlt : k < n
    · have k1 : k < l.length := by have := HN.out.1; omega
      obtain ⟨wd, hwd⟩ : ∃ wd, wd = wr.drew := ⟨_, rfl⟩
      have hd := hS.drew
      rw [← hwd] at hd
      obtain ⟨b1, o1, va, vc, rfl, g0, g1, KM, hK, hr, h3⟩ := pair_at (show Sat W wd (sep (kn J) (sep (osl 84 2 oa k oc cells) (sep ((rPairQ.rows 2).is cells (l.take k)) A))) by simpa only [sep_comm, sep_lcomm, sep_assoc] using hd) ((rPairQ.slice 2).mono hIJ.out HN.out.2) k k1
      obtain ⟨x, hx⟩ : ∃ z, z = l[k] := ⟨_, rfl⟩
      rw [← hx] at g0 g1 hr
      have htk : l.take (k + 1) = l.take k ++ [x] := by rw [List.take_succ_eq_append_getElem k1, ← hx]
      obtain ⟨xi, hxi⟩ : ∃ z, z = x.1 := ⟨_, rfl⟩
      obtain ⟨xl, hxl⟩ : ∃ z, z = x.2.length := ⟨_, rfl⟩
      rw [← hxi] at g0
      rw [← hxl] at g1 hr
      have hrp : rPairQ.rel KM [.int .i64 xi, .slice va xl vc] x := ⟨va, vc, by rw [hxi, hxl], by rw [← hxl]; exact hr⟩
      have h4 : Sat W wd (sep (osl 84 2 oa k oc cells) (sep ((rPairQ.rows 2).is cells (l.take k)) (sep (kn KM) A))) := by simpa only [sep_comm, sep_lcomm, sep_assoc] using h3
      have HX := Lib.hid (And.intro htk (And.intro hrp (And.intro (Mem.le_trans hIJ.out hK) h4)))
      clear hx hd hS h3 h4 htk hrp hxi hxl hr hK
      go_wp2_with fail
      refine wp_region_canon rfl (fun _ => True) [(0, .p), (1, .p), (2, .p), (3, .p), (4, .p), (5, .t), (6, .p), (7, .p), (8, .p), (9, .p), (10, .t), (11, .p), (12, .e false), (13, .e false), (14, .p)] (by kernel_rfl) ?_
      rw [← hwd]
      clear hwd
      have hS0 : True := trivial
      (repeat ((first | (refine C_p (v := ?_) rfl rfl (fun w' => ?_) ?_; rotate_left; (go_simp; with_reducible rfl)) | (refine C_s (v := ?_) rfl rfl hS0 (fun w' hS => ?_) ?_; rotate_left; ((try dsimp only at hS); go_simp; with_reducible rfl)) | (refine C_t (v := ?_) rfl rfl ?_ ?_; rotate_left; (go_simp; with_reducible rfl)) | (refine C_po rfl rfl ?_) | (refine C_so rfl rfl hS0 ?_) | (refine C_to rfl rfl ?_)); simp only [Act.put, List.setIfInBounds_toArray, List.set_cons_zero, List.set_cons_succ]))
      (refine C_e rfl rfl (fun K hK => ?_); go_simp)
      (refine hK _ _ (fun h => by cases h) ?_; clear hK K; (try simp only [Act.put, List.setIfInBounds_toArray, List.set_cons_zero, List.set_cons_succ]))
      have h5 := HX.out.2.2.2.alloc0 (.cells #[.int .i64 xi, .slice va xl vc] 84)
      clear g0 g1
      refine C_e rfl rfl (fun K hK => ?_)
      refine wp_append_osl (.tmp 11) (.tmp 23) 37 rfl 84 2 32 (.agg #[.int .i64 0, .slice none 0 0]) Tryd.underlying37 infoPair rfl rfl h5 rfl [.int .i64 xi, .slice va xl vc] rfl (by simp) (by intro b hb; cases hb; exact new_src _ [_, _] _) (by simp [Value.oneCell']) (by omega) (by unfold maxLen; omega) ?_
      intro a2 c2 w2 h6
      have h7 := rowsk_snoc (show Sat W w2 (sep ((rPairQ.rows 2).is cells (l.take k)) (sep (kn KM) (sep (osl 84 2 a2 (k + 1) c2 (cells ++ [.int .i64 xi, .slice va xl vc])) A))) by simpa only [sep_comm, sep_lcomm, sep_assoc] using h6) HX.out.2.1 rfl
      have H7 := Lib.hid h7
      clear h5 h6 h7
      (refine hK _ _ (fun h => by cases h) ?_; clear hK K; (try simp only [Act.put, List.setIfInBounds_toArray, List.set_cons_zero, List.set_cons_succ]))
      (repeat ((first | (refine C_p (v := ?_) rfl rfl (fun w' => ?_) ?_; rotate_left; (go_simp; with_reducible rfl)) | (refine C_s (v := ?_) rfl rfl hS0 (fun w' hS => ?_) ?_; rotate_left; ((try dsimp only at hS); go_simp; with_reducible rfl)) | (refine C_t (v := ?_) rfl rfl ?_ ?_; rotate_left; (go_simp; with_reducible rfl)) | (refine C_po rfl rfl ?_) | (refine C_so rfl rfl hS0 ?_) | (refine C_to rfl rfl ?_)); simp only [Act.put, List.setIfInBounds_toArray, List.set_cons_zero, List.set_cons_succ]))
      refine C_nil ?_
      go_wp2_with fail
      go_roundw
      case rel =>
        refine ⟨k + 1, a2, c2, cells ++ [.int .i64 xi, .slice va xl vc], KM, by omega, rfl, rfl, Lib.hid HX.out.2.2.1, ?_⟩
        rw [HX.out.1]
        have := H7.out
        simpa only [sep_comm, sep_lcomm, sep_assoc] using this
      case measure => simp only [intOf]; omega
    · obtain rfl : k = n := by omega
      have htk : l.take k = l := List.take_of_length_le (by rw [HN.out.1]; exact Nat.le_refl _)
      rw [htk] at hS
      have h2 := Sat.slice_of_osl (R := rPairQ) (xs := l) hS HN.out.1
      obtain ⟨K, hK, hr, h3⟩ := h2.learn
      have HF := Lib.hid (And.intro (Mem.le_trans hIJ.out hK) (And.intro hr h3))
      clear hS h2 h3 hr hK htk
      go_wp2_with fail
      go_ret
      exact ⟨oa, oc, K, rfl, HF.out.1, HF.out.2.1, HF.out.2.2⟩
end Go.Proofs.YtcmjbjlliehdiaaDoor
/- The reference's map: Made. -/
namespace PA
open Go Go.RowKit
/-- The bytes that Made makes of a number. -/
def genV (n : Nat) : List UInt8 := (List.range (n % 6)).map fun k => UInt8.ofNat (n / 2 ^ k)
theorem genV_len (n : Nat) : (genV n).length ≤ 5 := by unfold genV; rw [List.length_map, List.length_range]; omega
end PA
namespace Go.Proofs.YtcmjbjlliehdiaaDoor
open Go.RowKit PA
def numM (x : Int) : Nat := (aroundI x 1048576).toNat
theorem numM_eq (x : Int) : aroundI x 1048576 = (numM x : Nat) := by have := aroundI_lt x 1048576 (by omega); unfold numM; omega
/-- The map made of the first j pairs of numbers. -/
def madeP (N : List Int) : Nat → PrL
  | 0 => []
  | j + 1 => setP (madeP N j) (keyQ (N.getD (2 * j) 0)) (genV (numM (N.getD (2 * j + 1) 0)))
theorem madeP_ok (N : List Int) : ∀ j, AscP (madeP N j) ∧ (madeP N j).length ≤ j ∧ ∀ x ∈ madeP N j, (0 ≤ x.1 ∧ x.1 ≤ 4095) ∧ x.2.length ≤ 5
  | 0 => ⟨by simp [madeP, AscP], Nat.le_refl _, fun x hx => by cases hx⟩
  | j + 1 => by
    obtain ⟨h1, h2, h3⟩ := madeP_ok N j
    refine ⟨setP_asc _ _ h1, ?_, fun x hx => ?_⟩
    · have := setP_len (genV (numM (N.getD (2 * j + 1) 0))) (keyQ (N.getD (2 * j) 0)) (madeP N j)
      show (setP _ _ _).length ≤ _
      omega
    · rcases setP_mem _ _ hx with rfl | hx
      · exact ⟨keyQ_range _, genV_len _⟩
      · exact h3 x hx
set_option maxRecDepth 100000 in
set_option maxHeartbeats 8000000 in
theorem qmade_spec {W w : World} {A : Assn} {I : Mem} (a : Option Addr) (n c : Nat) (N : List Int) (m : Nat) (hm : m ≤ 100) (hn : n = N.length) (h64 : ∀ x ∈ N, -9223372036854775808 ≤ x ∧ x ≤ 9223372036854775807)
    (hv : (rInt.slice 1).rel I [.slice a n c] N) (h : Sat W w (sep (kn I) A)) :
    Calls Tryd.prog 11 #[.slice a n c, .int .i64 (m : Nat)] w fun e w' => ∃ q, e = .returned (.pointer (some ⟨q, 0, none⟩)) ∧ Sat W w' (sep (isQM q (madeP N (min (n / 2) m))) (sep (kn I) A)) := by
  obtain ⟨a', c', e1, hsw, hcells⟩ := ints_rel.1 hv
  simp only [Value.slice.injEq] at e1
  obtain ⟨rfl, -, rfl⟩ := e1
  have hn64 : (n : Int) ≤ 9223372036854775807 := by rw [hn]; have := hsw.1; have := hsw.2.1; unfold maxLen at this; omega
  have h1 := (h.alloc (.cells #[.slice none 0 0] 29)).osl_nil 34 2
  obtain ⟨q, hq⟩ : ∃ q, q = w.heap.size := ⟨_, rfl⟩
  obtain ⟨w2, hw2⟩ : ∃ w2, w2 = w.alloc (.cells #[.slice none 0 0] 29) := ⟨_, rfl⟩
  rw [← hq, ← hw2] at h1
  have h3 : Sat W w2 (sep (isQM q []) (sep (kn I) A)) := by
    have h2 := rows_nil rPairQ 2 h1
    exact isQM_mk (a := none) (n := 0) (c := 0) (cells := []) rfl (show Sat W w2 (sep (blk q (.cells #[.slice none 0 0] 29 (0, 0))) (sep (osl 34 2 none 0 0 []) (sep ((rPairQ.rows 2).is [] []) (sep (kn I) A)))) by simpa only [sep_comm, sep_lcomm, sep_assoc] using h2)
  have HW := Lib.hid (And.intro hq hw2)
  have HN := Lib.hid (And.intro hn (And.intro h64 hcells))
  have H3 := Lib.hid h3
  clear h h1 h3 hq hw2 hn h64 hcells hsw hv
  go_enter Tryd.func11, Tryd.ntmps11
  go_upto_region 2 with (fail)
  rw [← HW.out.1, ← HW.out.2]
  go_wp2_with fail
  go_loopw [6] (fun iv' wr => ∃ j : Nat, j ≤ min (n / 2) m ∧ iv' = .int .i64 ((2 * j : Nat) : Int) ∧ Sat W wr (sep (isQM q (madeP N j)) (sep (kn I) A))) (fun iv' _ => 2 * m - (intOf iv').toNat)
  case atStart => exact ⟨0, by omega, rfl, H3.out⟩
  case round =>
    clear H3
    obtain ⟨j, hj, rfl, hS⟩ := hrel
    obtain ⟨j2, hj2⟩ : ∃ j2, j2 = 2 * j := ⟨_, rfl⟩
    rw [← hj2]
    have HJ := Lib.hid (And.intro hj hj2)
    by_cases hin : 2 * j + 1 < n ∧ j < m
    · have hi1 : j2 + 1 < n := by omega
      have hi2 : j2 < 2 * m := by omega
      have hL1 : j2 + 1 < N.length := by rw [← HN.out.1]; exact hi1
      have hL0 : j2 < N.length := by omega
      obtain ⟨b, o, rfl, hcell⟩ := cells_ext HN.out.2.2 (by intro e; rw [List.map_eq_nil_iff] at e; rw [e] at hL0; simp at hL0)
      obtain ⟨x0, hx0⟩ : ∃ x, x = N[j2] := ⟨_, rfl⟩
      obtain ⟨x1, hx1⟩ : ∃ x, x = N[j2 + 1] := ⟨_, rfl⟩
      have hc1 : ∀ w', Ext I w' → w'.cell? ⟨b, o + (j2 + 1), none⟩ = some (.int .i64 x1) := fun w' he => hcell w' he (j2 + 1) _ (by rw [List.getElem?_map, List.getElem?_eq_getElem hL1, ← hx1]; rfl)
      have hc0 : ∀ w', Ext I w' → w'.cell? ⟨b, o + j2, none⟩ = some (.int .i64 x0) := fun w' he => hcell w' he j2 _ (by rw [List.getElem?_map, List.getElem?_eq_getElem hL0, ← hx0]; rfl)
      have h64a := HN.out.2.1 x0 (by rw [hx0]; exact List.getElem_mem hL0)
      have h64b := HN.out.2.1 x1 (by rw [hx1]; exact List.getElem_mem hL1)
      have e0 : N.getD (2 * j) 0 = x0 := by rw [← hj2, List.getD_eq_getElem?_getD, List.getElem?_eq_getElem hL0, hx0]; rfl
      have e1 : N.getD (2 * j + 1) 0 = x1 := by rw [← hj2, List.getD_eq_getElem?_getD, List.getElem?_eq_getElem hL1, hx1]; rfl
      have har := around_spec x1 1048576 wr h64b.1 h64b.2 (by omega) (by omega)
      have hlt := aroundI_lt x1 1048576 (by omega)
      obtain ⟨nm, hnm⟩ : ∃ nm, nm = numM x1 := ⟨_, rfl⟩
      rw [numM_eq x1, ← hnm] at har hlt
      have hnm20 : nm < 1048576 := by omega
      have g1 := hc1 wr hS.p1.ext
      have hi1I : (j2 : Int) + 1 < (n : Int) := by omega
      have hi2I : (j2 : Int) < 2 * (m : Int) := by omega
      have hj3 : j2 ≤ 200 := by omega
      have HAR := Lib.hid har
      have HE := Lib.hid (And.intro e0 (And.intro e1 (And.intro hnm (And.intro hc0 h64a))))
      have HS := Lib.hid hS
      clear hS hcell hc1 hc0 h64a h64b e0 e1 har hlt hnm hx0 hx1 hL0 hL1 hj hj2 hin hi1 hi2
      go_wp2_with fail
      refine HAR.out.mono ?_
      rintro e w' ⟨rfl, rfl⟩
      clear HAR g1
      go_wp2_with fail
      have hb0 := HS.out.osl_nil 5 1
      obtain ⟨r, hr⟩ : ∃ r, r = nm % 6 := ⟨_, rfl⟩
      have hr5 : r ≤ 5 := by omega
      have hrI : (nm : Int) % 6 = (r : Int) := by omega
      have HR := Lib.hid hr
      clear hr
      go_loopw [7, 9] (fun vv kv wx => ∃ (t : Nat) (va : Option Addr) (vc : Nat), t ≤ r ∧ kv = .int .i64 (t : Nat) ∧ vv = .slice va t vc ∧ Sat W wx (sep (osl 5 1 va t vc (((genV nm).take t).map bv)) (sep (isQM q (madeP N j)) (sep (kn I) A)))) (fun _ kv _ => r - (intOf kv).toNat)
      case atStart => exact ⟨0, none, 0, by omega, rfl, rfl, by rw [List.take_zero]; exact hb0⟩
      case round =>
        clear hb0
        obtain ⟨t, va, vc, ht, rfl, rfl, hT⟩ := hrel
        by_cases htr : t < r
        · have htI : (t : Int) < (r : Int) := by omega
          have hgl : (genV nm).take (t + 1) = (genV nm).take t ++ [UInt8.ofNat (nm / 2 ^ t)] := by
            have hlen : t < (genV nm).length := by unfold genV; rw [List.length_map, List.length_range, ← HR.out]; exact htr
            rw [List.take_succ_eq_append_getElem hlen]
            congr 2
            simp [genV]
          have HGL := Lib.hid hgl
          clear hgl
          have hbv : bv (UInt8.ofNat (nm / 2 ^ t)) = .int .u8 ((nm : Int) / 2 ^ t % 256) := by
            unfold bv
            rw [UInt8.toNat_ofNat']
            congr 1
          have h1 := hT.alloc (.cells #[.int .u8 ((nm : Int) / 2 ^ t % 256)] 5)
          have h2 : Sat W (wr.alloc (.cells #[.int .u8 ((nm : Int) / 2 ^ t % 256)] 5)) (sep (osl 5 1 va t vc (((genV nm).take t).map bv)) (sep (isQM q (madeP N j)) (sep (kn I) A))) := h1.drop
          have H2 := Lib.hid h2
          have HBV := Lib.hid hbv
          clear hT h1 h2 hbv
          go_wp2_with (at_builtin; refine wpl_append_osl rfl (.tmp 37) (.tmp 43) 32 rfl 5 1 1 (.int .u8 0) Tryd.underlying32 infoU8c rfl rfl H2.out rfl [.int .u8 ((nm : Int) / 2 ^ t % 256)] rfl (by simp) (by intro b hb; cases hb; exact new_src _ [_] _) (by simp [Value.oneCell']) (by omega) (by unfold maxLen; omega) ?_)
          intro va2 vc2 wy h3
          have H3y := Lib.hid (show Sat W wy (sep (osl 5 1 va2 (t + 1) vc2 (((genV nm).take (t + 1)).map bv)) (sep (isQM q (madeP N j)) (sep (kn I) A))) by
            rw [HGL.out, List.map_append, List.map_cons, List.map_nil, HBV.out, List.map_take]
            exact h3)
          clear H2 h3
          go_wp2_with fail
          go_roundw
          case rel => exact ⟨t + 1, va2, vc2, by omega, rfl, rfl, H3y.out⟩
          case measure => simp only [intOf]; omega
        · obtain rfl : t = r := by omega
          have htI : ¬ (t : Int) < (t : Int) := by omega
          have hgl : (genV nm).take t = genV nm := by
            refine List.take_of_length_le ?_
            unfold genV; rw [List.length_map, List.length_range, ← HR.out]; exact Nat.le_refl _
          rw [hgl] at hT
          have hgn : t = (genV nm).length := by unfold genV; rw [List.length_map, List.length_range, ← HR.out]
          obtain ⟨J, hJ, hrv, h5⟩ := osl_learnQ (show Sat W wr (sep (osl 5 1 va t vc ((genV nm).map bv)) (sep (kn I) (sep (isQM q (madeP N j)) A))) by simpa only [sep_comm, sep_lcomm, sep_assoc] using hT) hgn
          have g0 := HE.out.2.2.2.1 wr hT.p2.ext
          have hky := qkey_spec x0 HE.out.2.2.2.2 h5
          obtain ⟨ky, hkye⟩ : ∃ ky, ky = keyQ x0 := ⟨_, rfl⟩
          have hkr := keyQ_range x0
          rw [← hkye] at hky hkr
          have HKY := Lib.hid hky
          have HJ2 := Lib.hid (And.intro hJ (And.intro hrv (And.intro hgn (And.intro hkye hkr))))
          clear hT h5 hky hJ hrv hgn hkye hkr ht htr hgl
          go_wp2_with fail
          refine HKY.out.mono ?_
          rintro e wk ⟨rfl, h6⟩
          have hok := madeP_ok N j
          have hst := qset_ok q (madeP N j) ky (.slice va t vc) (genV nm) (show Sat W wk (sep (isQM q (madeP N j)) (sep (kn J) A)) by simpa only [sep_comm, sep_lcomm, sep_assoc] using h6) HJ2.out.2.1 (by have := genV_len nm; omega) (by have := hok.2.1; have := HJ.out.1; omega) HJ2.out.2.2.2.2
          have HST := Lib.hid hst
          clear HKY h6 hst hok g0
          go_wp2_with fail
          refine HST.out.mono ?_
          rintro e wl ⟨rfl, h7⟩
          have h8 : Sat W wl (sep (isQM q (madeP N (j + 1))) (sep (kn I) A)) := by
            have e : madeP N (j + 1) = setP (madeP N j) ky (genV nm) := by rw [madeP, HE.out.1, HE.out.2.1, ← HE.out.2.2.1, ← HJ2.out.2.2.2.1]
            rw [e]
            have := h7.p1.kn_mono HJ2.out.1
            simpa only [sep_comm, sep_lcomm, sep_assoc] using this
          have H8 := Lib.hid h8
          clear HST h7 h8
          go_wp2_with fail
          go_roundw
          case rel => exact ⟨j + 1, by have := HJ.out; omega, by have := HJ.out.2; congr 1; omega, H8.out⟩
          case measure => simp only [intOf]; omega
    · have hje : j = min (n / 2) m := by omega
      by_cases hi1 : 2 * j + 1 < n
      · have hi1I : (j2 : Int) + 1 < (n : Int) := by omega
        have hi2I : ¬ (j2 : Int) < 2 * (m : Int) := by omega
        have HS := Lib.hid hS
        have hj3 : j2 ≤ 200 := by omega
        clear hS hin hi1 hj hj2
        go_wp2_with fail
        go_ret
        rw [← hje]
        exact ⟨q, rfl, HS.out⟩
      · have hi1I : ¬ (j2 : Int) + 1 < (n : Int) := by omega
        have HS := Lib.hid hS
        have hj3 : j2 ≤ 200 := by omega
        clear hS hin hi1 hj hj2
        go_wp2_with fail
        go_ret
        rw [← hje]
        exact ⟨q, rfl, HS.out⟩
end Go.Proofs.YtcmjbjlliehdiaaDoor
/- The reference's map: Find. -/
namespace PA
open Go
theorem AscP.lt {L : PrL} (h : AscP L) {i j : Nat} (hi : i < L.length) (hj : j < L.length) (hij : i < j) : L[i].1 < L[j].1 := by
  have := List.pairwise_iff_getElem.1 h i j (by simpa using hi) (by simpa using hj) hij
  simpa using this
/-- Where the key is found. -/
def findP (L : PrL) (k : Int) : Int := if hasP L k = true then (fndP L k : Nat) else -1
end PA
namespace Go.Proofs.YtcmjbjlliehdiaaDoor
open Go.RowKit PA
set_option maxRecDepth 100000 in
set_option maxHeartbeats 4000000 in
theorem qfind_core {w : World} (q : Nat) (L : PrL) (k : Int) (ha : AscP L) (hl : L.length ≤ 4000) (a : Option Addr) (c : Nat) (c00 : w.cell? ⟨q, 0, none⟩ = some (.slice a L.length c))
    (hc : ∀ i (hi : i < L.length), ∃ g o, a = some ⟨g, o, none⟩ ∧ w.cell? ⟨g, o + i * 2, none⟩ = some (.int .i64 L[i].1)) :
    Calls Tryd.prog 14 #[.pointer (some ⟨q, 0, none⟩), .int .i64 k] w fun e w' => e = .returned (.int .i64 (findP L k)) ∧ w' = w := by
  obtain ⟨n, hn⟩ : ∃ n, n = L.length := ⟨_, rfl⟩
  have c0 : w.cell? ⟨q, 0, none⟩ = some (.slice a n c) := by rw [hn]; exact c00
  have HC := Lib.hid hc
  have HN := Lib.hid hn
  have HA := Lib.hid ha
  have hnl : n ≤ 4000 := by omega
  obtain ⟨r, hr⟩ : ∃ r, r = findP L k := ⟨_, rfl⟩
  rw [← hr]
  have HR := Lib.hid hr
  clear c00 hc hn ha hl hr
  go_enter Tryd.func14, Tryd.ntmps14
  go_wp2
  go_loopw [5] (fun iv' wr => ∃ i : Nat, i ≤ n ∧ iv' = .int .i64 (i : Nat) ∧ wr = w ∧ Hid (∀ j (hj : j < L.length), j < i → L[j].1 ≠ k)) (fun iv' _ => n - (intOf iv').toNat)
  case atStart => exact ⟨0, by omega, rfl, rfl, Lib.hid fun j _ hj => by omega⟩
  case round =>
    obtain ⟨i, hi, rfl, rfl, hno⟩ := hrel
    by_cases hin : i < n
    · have hiL : i < L.length := by rw [← HN.out]; exact hin
      obtain ⟨g, o, rfl, g0⟩ := HC.out i hiL
      obtain ⟨x, hx⟩ : ∃ x, x = L[i].1 := ⟨_, rfl⟩
      rw [← hx] at g0
      have HX := Lib.hid hx
      have hinI : (i : Int) < (n : Int) := by omega
      by_cases hxk : x = k
      · have hB : (x == k) = true := by simp [hxk]
        have hri : r = (i : Int) := by
          have hf : fndP L k = i := by
            have h1 := fndP_le L k
            rcases Nat.lt_trichotomy (fndP L k) i with h2 | h2 | h2
            · exfalso
              have h3 := fndP_ge L k (by omega)
              have h4 := HA.out.lt (i := fndP L k) (by omega) hiL h2
              rw [← hx, hxk] at h4
              exact h3 h4
            · exact h2
            · exfalso
              have := fndP_lt L k i hiL h2
              rw [← hx, hxk] at this
              omega
          have hh : hasP L k = true := by
            unfold hasP
            simp only [hf]
            rw [dif_pos hiL, ← hx]
            exact decide_eq_true hxk
          rw [HR.out, findP, if_pos hh, hf]
        clear hx hxk HX hiL hin
        go_wp2_with fail
        go_ret
        exact ⟨by rw [hri]; rfl, rfl⟩
      · have hB : (x == k) = false := by simp [hxk]
        have hno2 : Hid (∀ j (hj : j < L.length), j < i + 1 → L[j].1 ≠ k) := Lib.hid fun j hj hj2 => by
          rcases Nat.lt_or_ge j i with h1 | h1
          · exact hno.out j hj h1
          · obtain rfl : j = i := by omega
            rw [← hx]; exact hxk
        clear hx hxk HX hiL hin
        go_wp2_with fail
        go_roundw
        case rel => exact ⟨i + 1, by omega, rfl, trivial, hno2⟩
        case measure => simp only [intOf]; omega
    · obtain rfl : i = n := by omega
      have hinI : ¬ (i : Int) < (i : Int) := by omega
      have hri : r = -1 := by
        have hh : ¬ hasP L k = true := by
          intro hh
          unfold hasP at hh
          split at hh
          · rename_i h2
            exact hno.out _ h2 (by rw [HN.out]; exact h2) (of_decide_eq_true hh)
          · cases hh
        rw [HR.out, findP, if_neg hh]
      clear hin
      go_wp2_with fail
      go_ret
      first | exact ⟨by rw [hri]; rfl, rfl⟩ | exact ⟨rfl, rfl⟩
theorem qfind_spec {W w : World} {A : Assn} (q : Nat) (L : PrL) (k : Int) (ha : AscP L) (h : Sat W w (sep (isQM q L) A)) (hl : L.length ≤ 4000) :
    Calls Tryd.prog 14 #[.pointer (some ⟨q, 0, none⟩), .int .i64 k] w fun e w' => e = .returned (.int .i64 (findP L k)) ∧ w' = w := by
  obtain ⟨a, c, cells, h0⟩ := isQM_open h
  refine qfind_core q L k ha hl a c (h0.cell 0) fun i hi => ?_
  obtain ⟨g, b, d, rfl, g0, -⟩ := qm_cells h0.drop i hi
  exact ⟨g, 0, rfl, by rw [Nat.zero_add]; exact g0⟩
/-! ### a map that no longer changes -/
def qmR (I : Mem) (q : Nat) (L : PrL) : Prop := ∃ a c, I q = some (.cells #[.slice a L.length c] 29 (0, 0)) ∧ (rPairQ.slice 2).rel I [.slice a L.length c] L
theorem qmR.mono {I J : Mem} {q : Nat} {L : PrL} (h : Mem.le I J) (hq : qmR I q L) : qmR J q L := by
  obtain ⟨a, c, h1, h2⟩ := hq
  exact ⟨a, c, h _ _ h1, (rPairQ.slice 2).mono h h2⟩
theorem qm_settle {W w : World} {A : Assn} {I : Mem} {q : Nat} {L : PrL} (h : Sat W w (sep (isQM q L) (sep (kn I) A))) : ∃ J, Mem.le I J ∧ qmR J q L ∧ Sat W w (sep (kn J) A) := by
  obtain ⟨a, c, cells, h0⟩ := isQM_open h
  have h1 : Sat W w (sep (osl 34 2 a L.length c cells) (sep ((rPairQ.rows 2).is cells L) (sep (kn I) (sep (blk q (.cells #[.slice a L.length c] 29 (0, 0))) A)))) := by
    simpa only [sep_comm, sep_lcomm, sep_assoc] using h0
  obtain ⟨J1, hJ1, hr, h2⟩ := (h1.slice_of_osl (R := rPairQ) (k := 2) rfl).learn
  obtain ⟨J2, hJ2, hb, h3⟩ := (show Sat W w (sep (imm q (.cells #[.slice a L.length c] 29 (0, 0))) (sep (kn J1) A)) from h2.p1.settle).learn
  exact ⟨J2, Mem.le_trans hJ1 hJ2, ⟨a, c, hb, (rPairQ.slice 2).mono hJ2 hr⟩, h3⟩
/-- What a settled map's cells hold. -/
theorem qm_look {W w : World} {A : Assn} {I : Mem} {q : Nat} {L : PrL} (hq : qmR I q L) (h : Sat W w (sep (kn I) A)) : ∃ a c, w.cell? ⟨q, 0, none⟩ = some (.slice a L.length c) ∧ (rPairQ.slice 2).rel I [.slice a L.length c] L := by
  obtain ⟨a, c, h1, h2⟩ := hq
  exact ⟨a, c, cell_of_row w q 0 _ _ _ (h.ext _ _ h1), h2⟩
theorem qfind_kn {W w : World} {A : Assn} {I : Mem} (q : Nat) (L : PrL) (k : Int) (ha : AscP L) (hq : qmR I q L) (h : Sat W w (sep (kn I) A)) (hl : L.length ≤ 4000) :
    Calls Tryd.prog 14 #[.pointer (some ⟨q, 0, none⟩), .int .i64 k] w fun e w' => e = .returned (.int .i64 (findP L k)) ∧ w' = w := by
  obtain ⟨a, c, h1, h2⟩ := qm_look hq h
  refine qfind_core q L k ha hl a c h1 fun i hi => ?_
  obtain ⟨b, o, va, vc, rfl, g0, -⟩ := pair_at h h2 i hi
  exact ⟨b, o, rfl, g0⟩
theorem lk_find {L : PrL} (ha : AscP L) (k : Int) : (findP L k < 0) ↔ lkP L k = none := by
  unfold findP
  rw [hasP_lk ha k]
  cases h : lkP L k with
  | none => simp
  | some v => simp
end Go.Proofs.YtcmjbjlliehdiaaDoor
