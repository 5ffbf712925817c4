/- Package seal: Commit, Opens; SameInts, Same. -/
import Derived.Test.YtcnonbhhlbplpaaH5
import Derived.Test.YtcnonbhhlbplpaaUtil
namespace PA
open Go Go.RowKit
def sealL : List UInt8 := [115, 101, 97, 108]
def sealedL : List UInt8 := [115, 101, 97, 108, 101, 100]
def commitN (b : List UInt8) (s : Nat) : Nat := sumN sealL [wrap64 (s : Int), wrap64 ((bytesN sealedL b : Nat) : Int)]
theorem commitN_lt (b : List UInt8) (s : Nat) : commitN b s < 18446744073709551616 := sumU_lt _ _
end PA
namespace Go.Proofs.Ytcnonbhhlbplpaa
open Go.RowKit PA
attribute [local go_sem] Oper.semAt_some
theorem sameInts_spec (w : World) (a b : Option Addr) (c d : Nat) (x y : List Int) (hl1 : (x.length : Int) ≤ 9223372036854775807) (hl2 : (y.length : Int) ≤ 9223372036854775807)
    (hx : x ≠ [] → ∃ g o, a = some ⟨g, o, none⟩ ∧ ∀ j u, (x.map iv)[j]? = some u → w.cell? ⟨g, o + j, none⟩ = some u)
    (hy : y ≠ [] → ∃ g o, b = some ⟨g, o, none⟩ ∧ ∀ j u, (y.map iv)[j]? = some u → w.cell? ⟨g, o + j, none⟩ = some u) :
    Calls Try.prog 19 #[.slice a x.length c, .slice b y.length d] w fun e w' => e = .returned (.bool (decide (x = y))) ∧ ∃ n, w' = w.drewN n := by
  obtain ⟨nx, hnx⟩ : ∃ nx, nx = x.length := ⟨_, rfl⟩
  obtain ⟨ny, hny⟩ : ∃ ny, ny = y.length := ⟨_, rfl⟩
  have HX := Lib.hid hx
  have HY := Lib.hid hy
  rw [← hnx] at hl1 ⊢
  rw [← hny] at hl2 ⊢
  have HNX := Lib.hid hnx
  have HNY := Lib.hid hny
  clear hx hy
  by_cases hne : nx = ny
  · subst hne
    clear hnx hny
    go_enter Try.func19, Try.ntmps19
    go_wp2
    go_loopw [5] (fun i wr => ∃ k : Nat, k ≤ nx ∧ i = .int .i64 k ∧ x.take k = y.take k ∧ ∃ n, wr = w.drewN n) (fun i _ => nx - (intOf i).toNat)
    case atStart => exact ⟨0, Nat.zero_le _, rfl, rfl, 0, rfl⟩
    case round =>
      obtain ⟨k, hk, rfl, htk, nd, rfl⟩ := hrel
      have HT := Lib.hid htk
      clear htk
      by_cases hlt : k < nx
      · have k1 : k < x.length := by have := HNX.out; omega
        have k2 : k < y.length := by have := HNY.out; omega
        obtain ⟨b1, o1, rfl, hc1⟩ := HX.out (by intro e; rw [e] at k1; simp at k1)
        obtain ⟨b2, o2, rfl, hc2⟩ := HY.out (by intro e; rw [e] at k2; simp at k2)
        have g1 := hc1 k (iv x[k]) (by simp [k1])
        have g2 := hc2 k (iv y[k]) (by simp [k2])
        clear hc1 hc2
        obtain ⟨xk, hxk⟩ : ∃ z, z = x[k] := ⟨_, rfl⟩
        obtain ⟨yk, hyk⟩ : ∃ z, z = y[k] := ⟨_, rfl⟩
        rw [← hxk] at g1
        rw [← hyk] at g2
        have HXK := Lib.hid hxk
        have HYK := Lib.hid hyk
        unfold iv at g1 g2
        clear hxk hyk
        by_cases hxy : xk = yk
        · subst hxy
          have b1 : ((xk : Int) != (xk : Int)) = false := by simp
          go_wp2_with fail
          refine wp_region_canon rfl (fun _ => True) [(0, .p), (1, .p), (2, .p), (3, .t), (4, .p), (5, .p), (6, .p), (7, .t), (8, .p)] (by kernel_rfl) ?_
          have hS0 : True := trivial
          (repeat (first | (refine C_p (v := ?_) rfl rfl (fun w' => ?_) ?_; rotate_left; (go_simp; with_reducible rfl); simp only [Act.put, List.setIfInBounds_toArray, List.set_cons_zero, List.set_cons_succ]) | (refine C_s (v := ?_) rfl rfl hS0 (fun w' hS => ?_) ?_; rotate_left; ((try dsimp only at hS); go_simp; with_reducible rfl); simp only [Act.put, List.setIfInBounds_toArray, List.set_cons_zero, List.set_cons_succ]) | (refine C_t (v := ?_) rfl rfl ?_ ?_; rotate_left; (go_simp; with_reducible rfl); simp only [Act.put, List.setIfInBounds_toArray, List.set_cons_zero, List.set_cons_succ]) | (refine C_po rfl rfl ?_; simp only [Act.put, List.setIfInBounds_toArray, List.set_cons_zero, List.set_cons_succ]) | (refine C_so rfl rfl hS0 ?_; simp only [Act.put, List.setIfInBounds_toArray, List.set_cons_zero, List.set_cons_succ]) | (refine C_to rfl rfl ?_; simp only [Act.put, List.setIfInBounds_toArray, List.set_cons_zero, List.set_cons_succ])))
          refine C_nil ?_
          go_wp2
          go_roundw
          case rel => exact ⟨k + 1, by omega, by go_num, by rw [List.take_succ_eq_append_getElem k1, List.take_succ_eq_append_getElem k2, HT.out, ← HXK.out, ← HYK.out], nd + 1, rfl⟩
          case measure => simp [intOf]; omega
        · have b1 : ((xk : Int) != (yk : Int)) = true := by simp; omega
          have HXY := Lib.hid hxy
          clear hxy
          go_wp2_with fail
          refine wp_region_canon rfl (fun _ => True) [(0, .p), (1, .p), (2, .p), (3, .t), (4, .p), (5, .p), (6, .p), (7, .t), (8, .p)] (by kernel_rfl) ?_
          have hS0 : True := trivial
          (repeat (first | (refine C_p (v := ?_) rfl rfl (fun w' => ?_) ?_; rotate_left; (go_simp; with_reducible rfl); simp only [Act.put, List.setIfInBounds_toArray, List.set_cons_zero, List.set_cons_succ]) | (refine C_s (v := ?_) rfl rfl hS0 (fun w' hS => ?_) ?_; rotate_left; ((try dsimp only at hS); go_simp; with_reducible rfl); simp only [Act.put, List.setIfInBounds_toArray, List.set_cons_zero, List.set_cons_succ]) | (refine C_t (v := ?_) rfl rfl ?_ ?_; rotate_left; (go_simp; with_reducible rfl); simp only [Act.put, List.setIfInBounds_toArray, List.set_cons_zero, List.set_cons_succ]) | (refine C_po rfl rfl ?_; simp only [Act.put, List.setIfInBounds_toArray, List.set_cons_zero, List.set_cons_succ]) | (refine C_so rfl rfl hS0 ?_; simp only [Act.put, List.setIfInBounds_toArray, List.set_cons_zero, List.set_cons_succ]) | (refine C_to rfl rfl ?_; simp only [Act.put, List.setIfInBounds_toArray, List.set_cons_zero, List.set_cons_succ])))
          refine C_nil ?_
          go_wp2
          go_ret
          refine ⟨ret_b (Eq.symm (decide_eq_false (fun e => HXY.out (by have h1 := HXK.out; have h2 := HYK.out; subst e; exact h1.trans h2.symm)))), nd + 1, rfl⟩
      · go_wp2
        go_ret
        have hkn : k = nx := by omega
        refine ⟨ret_b (Eq.symm (decide_eq_true ?_)), nd, rfl⟩
        have := HT.out
        rw [hkn] at this
        rw [List.take_of_length_le (by have := HNX.out; omega), List.take_of_length_le (by have := HNY.out; omega)] at this
        exact this
  · have b1 : ((nx : Int) != (ny : Int)) = true := by simp; omega
    go_enter Try.func19, Try.ntmps19
    go_wp2
    go_ret
    refine ⟨ret_b (Eq.symm (decide_eq_false (fun e => hne ?_))), 0, rfl⟩
    rw [HNX.out, HNY.out, e]

theorem same31_spec (w : World) (a b : Option Addr) (c d : Nat) (x y : List Nat) (hl1 : (x.length : Int) ≤ 9223372036854775807) (hl2 : (y.length : Int) ≤ 9223372036854775807)
    (hx : x ≠ [] → ∃ g o, a = some ⟨g, o, none⟩ ∧ ∀ j u, (x.map uv)[j]? = some u → w.cell? ⟨g, o + j, none⟩ = some u)
    (hy : y ≠ [] → ∃ g o, b = some ⟨g, o, none⟩ ∧ ∀ j u, (y.map uv)[j]? = some u → w.cell? ⟨g, o + j, none⟩ = some u) :
    Calls Try.prog 18 #[.slice a x.length c, .slice b y.length d] w fun e w' => e = .returned (.bool (decide (x = y))) ∧ ∃ n, w' = w.drewN n := by
  obtain ⟨nx, hnx⟩ : ∃ nx, nx = x.length := ⟨_, rfl⟩
  obtain ⟨ny, hny⟩ : ∃ ny, ny = y.length := ⟨_, rfl⟩
  have HX := Lib.hid hx
  have HY := Lib.hid hy
  rw [← hnx] at hl1 ⊢
  rw [← hny] at hl2 ⊢
  have HNX := Lib.hid hnx
  have HNY := Lib.hid hny
  clear hx hy
  by_cases hne : nx = ny
  · subst hne
    clear hnx hny
    go_enter Try.func18, Try.ntmps18
    go_wp2
    go_loopw [5] (fun i wr => ∃ k : Nat, k ≤ nx ∧ i = .int .i64 k ∧ x.take k = y.take k ∧ ∃ n, wr = w.drewN n) (fun i _ => nx - (intOf i).toNat)
    case atStart => exact ⟨0, Nat.zero_le _, rfl, rfl, 0, rfl⟩
    case round =>
      obtain ⟨k, hk, rfl, htk, nd, rfl⟩ := hrel
      have HT := Lib.hid htk
      clear htk
      by_cases hlt : k < nx
      · have k1 : k < x.length := by have := HNX.out; omega
        have k2 : k < y.length := by have := HNY.out; omega
        obtain ⟨b1, o1, rfl, hc1⟩ := HX.out (by intro e; rw [e] at k1; simp at k1)
        obtain ⟨b2, o2, rfl, hc2⟩ := HY.out (by intro e; rw [e] at k2; simp at k2)
        have g1 := hc1 k (uv x[k]) (by simp [k1])
        have g2 := hc2 k (uv y[k]) (by simp [k2])
        clear hc1 hc2
        obtain ⟨xk, hxk⟩ : ∃ z, z = x[k] := ⟨_, rfl⟩
        obtain ⟨yk, hyk⟩ : ∃ z, z = y[k] := ⟨_, rfl⟩
        rw [← hxk] at g1
        rw [← hyk] at g2
        have HXK := Lib.hid hxk
        have HYK := Lib.hid hyk
        unfold uv at g1 g2
        clear hxk hyk
        by_cases hxy : xk = yk
        · subst hxy
          have b1 : (((xk : Nat) : Int) != ((xk : Nat) : Int)) = false := by simp
          go_wp2_with fail
          refine wp_region_canon rfl (fun _ => True) [(0, .p), (1, .p), (2, .p), (3, .t), (4, .p), (5, .p), (6, .p), (7, .t), (8, .p)] (by kernel_rfl) ?_
          have hS0 : True := trivial
          (repeat (first | (refine C_p (v := ?_) rfl rfl (fun w' => ?_) ?_; rotate_left; (go_simp; with_reducible rfl); simp only [Act.put, List.setIfInBounds_toArray, List.set_cons_zero, List.set_cons_succ]) | (refine C_s (v := ?_) rfl rfl hS0 (fun w' hS => ?_) ?_; rotate_left; ((try dsimp only at hS); go_simp; with_reducible rfl); simp only [Act.put, List.setIfInBounds_toArray, List.set_cons_zero, List.set_cons_succ]) | (refine C_t (v := ?_) rfl rfl ?_ ?_; rotate_left; (go_simp; with_reducible rfl); simp only [Act.put, List.setIfInBounds_toArray, List.set_cons_zero, List.set_cons_succ]) | (refine C_po rfl rfl ?_; simp only [Act.put, List.setIfInBounds_toArray, List.set_cons_zero, List.set_cons_succ]) | (refine C_so rfl rfl hS0 ?_; simp only [Act.put, List.setIfInBounds_toArray, List.set_cons_zero, List.set_cons_succ]) | (refine C_to rfl rfl ?_; simp only [Act.put, List.setIfInBounds_toArray, List.set_cons_zero, List.set_cons_succ])))
          refine C_nil ?_
          go_wp2
          go_roundw
          case rel => exact ⟨k + 1, by omega, by go_num, by rw [List.take_succ_eq_append_getElem k1, List.take_succ_eq_append_getElem k2, HT.out, ← HXK.out, ← HYK.out], nd + 1, rfl⟩
          case measure => simp [intOf]; omega
        · have b1 : (((xk : Nat) : Int) != ((yk : Nat) : Int)) = true := by simp; omega
          have HXY := Lib.hid hxy
          clear hxy
          go_wp2_with fail
          refine wp_region_canon rfl (fun _ => True) [(0, .p), (1, .p), (2, .p), (3, .t), (4, .p), (5, .p), (6, .p), (7, .t), (8, .p)] (by kernel_rfl) ?_
          have hS0 : True := trivial
          (repeat (first | (refine C_p (v := ?_) rfl rfl (fun w' => ?_) ?_; rotate_left; (go_simp; with_reducible rfl); simp only [Act.put, List.setIfInBounds_toArray, List.set_cons_zero, List.set_cons_succ]) | (refine C_s (v := ?_) rfl rfl hS0 (fun w' hS => ?_) ?_; rotate_left; ((try dsimp only at hS); go_simp; with_reducible rfl); simp only [Act.put, List.setIfInBounds_toArray, List.set_cons_zero, List.set_cons_succ]) | (refine C_t (v := ?_) rfl rfl ?_ ?_; rotate_left; (go_simp; with_reducible rfl); simp only [Act.put, List.setIfInBounds_toArray, List.set_cons_zero, List.set_cons_succ]) | (refine C_po rfl rfl ?_; simp only [Act.put, List.setIfInBounds_toArray, List.set_cons_zero, List.set_cons_succ]) | (refine C_so rfl rfl hS0 ?_; simp only [Act.put, List.setIfInBounds_toArray, List.set_cons_zero, List.set_cons_succ]) | (refine C_to rfl rfl ?_; simp only [Act.put, List.setIfInBounds_toArray, List.set_cons_zero, List.set_cons_succ])))
          refine C_nil ?_
          go_wp2
          go_ret
          refine ⟨ret_b (Eq.symm (decide_eq_false (fun e => HXY.out (by have h1 := HXK.out; have h2 := HYK.out; subst e; exact h1.trans h2.symm)))), nd + 1, rfl⟩
      · go_wp2
        go_ret
        have hkn : k = nx := by omega
        refine ⟨ret_b (Eq.symm (decide_eq_true ?_)), nd, rfl⟩
        have := HT.out
        rw [hkn] at this
        rw [List.take_of_length_le (by have := HNX.out; omega), List.take_of_length_le (by have := HNY.out; omega)] at this
        exact this
  · have b1 : ((nx : Int) != (ny : Int)) = true := by simp; omega
    go_enter Try.func18, Try.ntmps18
    go_wp2
    go_ret
    refine ⟨ret_b (Eq.symm (decide_eq_false (fun e => hne ?_))), 0, rfl⟩
    rw [HNX.out, HNY.out, e]

set_option maxHeartbeats 1000000 in
theorem scommit_spec {W w : World} {A : Assn} {I : Mem} (v : Value) (bs : List UInt8) (s : Nat) (h : Sat W w (sep (kn I) A)) (hv : rBytes.rel I [v] bs) (hb : bs.length ≤ 140737488351240) :
    Calls Try.prog 20 #[v, .int .u64 (s : Nat)] w fun e w' => e = .returned (.int .u64 (commitN bs s : Nat)) ∧ Sat W w' (sep (kn I) A) := by
  have e6 : (⟨#[115, 101, 97, 108, 101, 100]⟩ : ByteArray).data.toList = sealedL := rfl
  have e4 : (⟨#[115, 101, 97, 108]⟩ : ByteArray).data.toList = sealL := rfl
  have H1 := hbytes_any ⟨#[115, 101, 97, 108, 101, 100]⟩ v bs h hv (by decide) hb
  rw [e6] at H1
  have HW : commitN bs s = sumN sealL [wrap64 (s : Int), wrap64 ((bytesN sealedL bs : Nat) : Int)] := rfl
  obtain ⟨hh, hhe⟩ : ∃ hh, hh = bytesN sealedL bs := ⟨_, rfl⟩
  have H1a : Calls Try.prog 23 #[.string ⟨#[115, 101, 97, 108, 101, 100]⟩, v] w fun e w' => e = .returned (.int .u64 (hh : Nat)) ∧ Sat W w' (sep (kn I) A) := by rw [hhe]; exact H1
  have H1' := Lib.hid H1a
  rw [← hhe] at HW
  obtain ⟨z1, hz1⟩ : ∃ z, wrap64 (s : Int) = z := ⟨_, rfl⟩
  obtain ⟨z2, hz2⟩ : ∃ z, wrap64 (hh : Int) = z := ⟨_, rfl⟩
  rw [hz1, hz2] at HW
  have HWW := Lib.hid HW
  obtain ⟨cm, hcm⟩ : ∃ cm, cm = commitN bs s := ⟨_, rfl⟩
  rw [← hcm] at HWW ⊢
  clear hv h hb HW hhe hcm H1 H1a e6
  go_enter Try.func20, Try.ntmps20
  go_wp2_with fail
  refine H1'.out.mono ?_
  rintro e w1 ⟨rfl, hS⟩
  clear H1'
  have H2a := (sum_spec ⟨#[115, 101, 97, 108]⟩ (some ⟨w1.heap.size, 0, none⟩) 2 [z1, z2] (w1.alloc (.cells #[.int .i64 (z1), .int .i64 (z2)] 3)) (by decide) (by simp) (fun _ => ⟨w1.heap.size, 0, rfl, by simp, fun j hj => by
    have hj2 : j < 2 := hj
    have := new_src w1 [.int .i64 (z1), .int .i64 (z2)] 3 j
    match j, hj2 with
    | 0, _ => exact this _ rfl
    | 1, _ => exact this _ rfl⟩))
  rw [e4, ← HWW.out] at H2a
  have H2 := Lib.hid H2a
  clear H2a e4
  have hS2 := hS.alloc0 (.cells #[.int .i64 (z1), .int .i64 (z2)] 3)
  go_wp2_with fail
  refine H2.out.mono ?_
  rintro e w2 ⟨rfl, hb⟩
  have hS3 := hS2.of_below hb
  go_wp2_with fail
  go_ret
  exact ⟨rfl, hS3⟩

set_option maxHeartbeats 1000000 in
theorem rcommit_spec {W w : World} {A : Assn} {I : Mem} (v : Value) (bs : List UInt8) (s : Nat) (h : Sat W w (sep (kn I) A)) (hv : rBytes.rel I [v] bs) (hb : bs.length ≤ 140737488351240) :
    Calls Try.prog 21 #[v, .int .u64 (s : Nat)] w fun e w' => e = .returned (.int .u64 (commitN bs s : Nat)) ∧ Sat W w' (sep (kn I) A) := by
  have e6 : (⟨#[115, 101, 97, 108, 101, 100]⟩ : ByteArray).data.toList = sealedL := rfl
  have e4 : (⟨#[115, 101, 97, 108]⟩ : ByteArray).data.toList = sealL := rfl
  have H1 := rhbytes_spec ⟨#[115, 101, 97, 108, 101, 100]⟩ v bs h hv (by decide) hb
  rw [e6] at H1
  have HW : commitN bs s = sumN sealL [wrap64 (s : Int), wrap64 ((bytesN sealedL bs : Nat) : Int)] := rfl
  obtain ⟨hh, hhe⟩ : ∃ hh, hh = bytesN sealedL bs := ⟨_, rfl⟩
  have H1a : Calls Try.prog 41 #[.string ⟨#[115, 101, 97, 108, 101, 100]⟩, v] w fun e w' => e = .returned (.int .u64 (hh : Nat)) ∧ Sat W w' (sep (kn I) A) := by rw [hhe]; exact H1
  have H1' := Lib.hid H1a
  rw [← hhe] at HW
  obtain ⟨z1, hz1⟩ : ∃ z, wrap64 (s : Int) = z := ⟨_, rfl⟩
  obtain ⟨z2, hz2⟩ : ∃ z, wrap64 (hh : Int) = z := ⟨_, rfl⟩
  rw [hz1, hz2] at HW
  have HWW := Lib.hid HW
  obtain ⟨cm, hcm⟩ : ∃ cm, cm = commitN bs s := ⟨_, rfl⟩
  rw [← hcm] at HWW ⊢
  clear hv h hb HW hhe hcm H1 H1a e6
  go_enter Try.func21, Try.ntmps21
  go_wp2_with fail
  refine H1'.out.mono ?_
  rintro e w1 ⟨rfl, hS⟩
  clear H1'
  have hS2 := (hS.alloc (.cells #[.int .i64 (z1), .int .i64 (z2)] 3)).osl_mk 2 2 1 [.int .i64 (z1), .int .i64 (z2)] rfl (by omega) (by unfold maxLen; omega) rfl rfl
  obtain ⟨J, hle, hJ, hS3⟩ := hS2.osl_settle.learn
  have H2a := (rsum_spec ⟨#[115, 101, 97, 108]⟩ (some ⟨w1.heap.size, 0, none⟩) 2 [z1, z2] hS3 (by decide) (by simp) hJ)
  rw [e4, ← HWW.out] at H2a
  have H2 := Lib.hid H2a
  clear H2a e4
  have HL := Lib.hid hle
  clear hS2 hS3 hJ hle
  go_wp2_with fail
  refine H2.out.mono ?_
  rintro e w2 ⟨rfl, hS4⟩
  go_wp2_with fail
  go_ret
  exact ⟨rfl, hS4.kn_mono HL.out⟩

theorem opens_spec {W w : World} {A : Assn} {I : Mem} (c : Nat) (v : Value) (bs : List UInt8) (s : Nat) (h : Sat W w (sep (kn I) A)) (hv : rBytes.rel I [v] bs) (hb : bs.length ≤ 140737488351240) :
    Calls Try.prog 22 #[.int .u64 (c : Nat), v, .int .u64 (s : Nat)] w fun e w' => e = .returned (.bool (decide (c = commitN bs s))) ∧ Sat W w' (sep (kn I) A) := by
  have H1 := Lib.hid (scommit_spec v bs s h hv hb)
  obtain ⟨cm, hcm⟩ : ∃ cm, cm = commitN bs s := ⟨_, rfl⟩
  rw [← hcm] at H1 ⊢
  clear hv h hb hcm
  go_enter Try.func22, Try.ntmps22
  go_wp2_with fail
  refine H1.out.mono ?_
  rintro e w1 ⟨rfl, hS⟩
  clear H1
  go_wp2_with fail
  go_ret
  refine ⟨ret_b ?_, hS⟩
  by_cases e : c = cm
  · subst e; simp
  · have : ¬ (cm : Int) = (c : Int) := by omega
    simp [e, this]
end Go.Proofs.Ytcnonbhhlbplpaa
