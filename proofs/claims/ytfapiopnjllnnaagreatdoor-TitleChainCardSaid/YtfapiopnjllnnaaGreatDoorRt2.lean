/- Package ratio: gcd, size, build, New, Valid, Add, Sub. -/
import Derived.Test.YtfapiopnjllnnaaGreatDoorKn
import Derived.Test.YtfapiopnjllnnaaGreatDoorReg
import Derived.Test.YtfapiopnjllnnaaGreatDoorTr
import Derived.Test.YtfapiopnjllnnaaGreatDoorProg
import Derived.Deep.DeepCutAuto
namespace Go.Proofs.YtfapiopnjllnnaaGreatDoor
open Go.RowKit PA
set_option maxHeartbeats 1000000 in
theorem gcd_spec {W w : World} {A : Assn} (a b : Nat) (ha : a < 18446744073709551616) (hb : b < 18446744073709551616) (h : Sat W w A) :
    Calls Tryz.prog 94 #[.int .u64 a, .int .u64 b] w fun e w' => e = .returned (.int .u64 (Nat.gcd a b : Nat)) ∧ Sat W w' A := by
  obtain ⟨g, hg⟩ : ∃ g, g = Nat.gcd a b := ⟨_, rfl⟩
  rw [← hg]
  have HG := Lib.hid hg
  clear hg
  go_enter Tryz.func94, Tryz.ntmps94
  go_wp2
  go_loopw [0, 1] (fun av bv wr => ∃ x y : Nat, av = .int .u64 x ∧ bv = .int .u64 y ∧ x < 18446744073709551616 ∧ y < 18446744073709551616 ∧ Nat.gcd x y = g ∧ Sat W wr A) (fun _ bv _ => (intOf bv).toNat)
  case atStart => exact ⟨a, b, rfl, rfl, ha, hb, HG.out.symm, h⟩
  case round =>
    obtain ⟨x, y, rfl, rfl, hx, hy, hxy, hS⟩ := hrel
    have HXY := Lib.hid hxy
    clear hxy
    by_cases h0 : 0 < y
    · have h0I : (0 : Int) < y := by omega
      have hy0 : ¬ y = 0 := by omega
      obtain ⟨z, hz⟩ : ∃ z, z = x % y := ⟨_, rfl⟩
      have hm : (x : Int).tmod (y : Int) = (z : Int) := by rw [hz, Int.tmod_eq_emod_of_nonneg (by omega)]; omega
      have hm2 : z < y := by rw [hz]; exact Nat.mod_lt _ h0
      have HZ := Lib.hid hz
      clear hz
      go_wp2
      refine wp_region_canon rfl (fun _ => True) [(0, .p), (1, .p), (2, .p), (3, .p), (4, .p), (5, .p)] (by kernel_rfl) ?_
      have hS0 : True := trivial
      (repeat ((first | (refine C_p (v := ?_) rfl rfl (fun w' => ?_) ?_; rotate_left; (go_simp; with_reducible rfl)) | (refine C_s (v := ?_) rfl rfl hS0 (fun w' hS => ?_) ?_; rotate_left; ((try dsimp only at hS); go_simp; with_reducible rfl)) | (refine C_t (v := ?_) rfl rfl ?_ ?_; rotate_left; (go_simp; with_reducible rfl)) | (refine C_po rfl rfl ?_) | (refine C_so rfl rfl hS0 ?_) | (refine C_to rfl rfl ?_)); simp only [Act.put, List.setIfInBounds_toArray, List.set_cons_zero, List.set_cons_succ]))
      refine C_nil ?_
      go_wp2
      go_roundw
      case rel => exact ⟨y, z, rfl, rfl, hy, by omega, by rw [HZ.out, ← HXY.out, Nat.gcd_comm y, ← Nat.gcd_rec, Nat.gcd_comm], hS.drew⟩
      case measure => simp [intOf]; omega
    · obtain rfl : y = 0 := by omega
      go_wp2
      go_ret
      exact ⟨by rw [← HXY.out]; simp, hS⟩
theorem size_spec (n : Int) (h1 : -9223372036854775808 ≤ n) (h2 : n ≤ 9223372036854775807) (w : World) :
    Calls Tryz.prog 68 #[.int .i64 n] w fun e w' => e = .returned (.int .u64 (n.natAbs : Nat)) ∧ w = w' := by
  by_cases hn : n < 0
  · have e1 : IntKind.u64.wrap n = n + 18446744073709551616 := by rw [IntKind.wrap_u64]; omega
    have e2 : IntKind.u64.wrap (-(n + 18446744073709551616)) = (n.natAbs : Int) := by rw [IntKind.wrap_u64]; omega
    go_enter Tryz.func68, Tryz.ntmps68
    go_wp2
    go_ret
    exact ⟨rfl, rfl⟩
  · have e1 : IntKind.u64.wrap n = (n.natAbs : Int) := by rw [IntKind.wrap_u64]; omega
    go_enter Tryz.func68, Tryz.ntmps68
    go_wp2
    go_ret
    exact ⟨rfl, rfl⟩
/-- The two cells of a ratio in memory. -/
theorem rt2 {W w : World} {A : Assn} {q : Nat} {u v : Value} {t : TypeId} (h : Sat W w (sep (blk q (.cells #[u, v] t (0, 0))) A)) :
    w.cell? ⟨q, 0, none⟩ = some u ∧ w.cell? ⟨q, 1, none⟩ = some v ∧ w.frozen? ⟨q, 0, none⟩ = false ∧ w.frozen? ⟨q, 1, none⟩ = false := ⟨h.cell 0, h.cell 1, h.unfrozen 0, h.unfrozen 1⟩
theorem rt2_set {W w : World} {A : Assn} {q : Nat} {u v : Value} {t : TypeId} (h : Sat W w (sep (blk q (.cells #[u, v] t (0, 0))) A)) (x y : Value) :
    Sat W ((w.setCell ⟨q, 0, none⟩ x).setCell ⟨q, 1, none⟩ y) (sep (blk q (.cells #[x, y] t (0, 0))) A) := (h.setCell 0 x).setCell 1 y
def rtC (r : Rt) : Array Value := #[.int .i64 r.n, .int .i64 r.d]
set_option maxHeartbeats 1000000 in
theorem build_spec {W w : World} {A : Assn} (neg : Bool) (n d : Nat) (hn : n < 18446744073709551616) (hd : d < 18446744073709551616) (h0 : 0 < d) (h : Sat W w A) :
    Calls Tryz.prog 67 #[.bool neg, .int .u64 n, .int .u64 d] w fun e w' => e = .returned (.tuple #[.agg #[.int .i64 (buildR neg n d).1.n, .int .i64 (buildR neg n d).1.d], .int .i64 (buildR neg n d).2]) ∧ Sat W w' A := by
  obtain ⟨g, hg⟩ : ∃ g, g = Nat.gcd n d := ⟨_, rfl⟩
  have hg0 : 0 < g := by rw [hg]; exact Nat.gcd_pos_of_pos_right _ h0
  have hg1 : ¬ g = 0 := by omega
  have hgl : g < 18446744073709551616 := by rw [hg]; exact Nat.lt_of_le_of_lt (Nat.gcd_le_right _ h0) hd
  obtain ⟨x, hx⟩ : ∃ x, x = n / g := ⟨_, rfl⟩
  obtain ⟨y, hy⟩ : ∃ y, y = d / g := ⟨_, rfl⟩
  have hxl : x ≤ n := by rw [hx]; exact Nat.div_le_self _ _
  have hyl : y ≤ d := by rw [hy]; exact Nat.div_le_self _ _
  have hdx : (n : Int).tdiv (g : Int) = (x : Int) := by rw [hx, Int.tdiv_eq_ediv_of_nonneg (by omega)]; omega
  have hdy : (d : Int).tdiv (g : Int) = (y : Int) := by rw [hy, Int.tdiv_eq_ediv_of_nonneg (by omega)]; omega
  have hgc := fun w0 (A0 : Assn) (h0 : Sat W w0 A0) => gcd_spec n d hn hd h0
  rw [← hg] at hgc
  have hux : IntKind.u64.wrap (x : Int) = x := IntWalk.u64_in _ (by omega)
  have huy : IntKind.u64.wrap (y : Int) = y := IntWalk.u64_in _ (by omega)
  have eB : buildR neg n d = if 1099511627776 < x ∨ 1048576 < y then (⟨0, 0⟩, 5) else (⟨if neg = true then -(x : Int) else (x : Int), (y : Int)⟩, 0) := by
    rw [hx, hy, hg]; rfl
  have HGC := Lib.hid hgc
  have EB := Lib.hid eB
  have h1 := h.alloc (.cells #[.int .i64 0, .int .i64 0] 44)
  obtain ⟨B, hB⟩ : ∃ B, B = w.heap.size := ⟨_, rfl⟩
  rw [← hB] at h1
  clear hgc eB hg hx hy h
  go_enter Tryz.func67, Tryz.ntmps67
  go_wp2_with fail
  rw [← hB]
  refine (HGC.out _ _ h1).mono ?_
  rintro e w2 ⟨rfl, h2⟩
  clear h1 HGC hB
  go_wp2
  refine wp_region_canon rfl (fun _ => True) [(0, .p), (1, .p), (2, .p), (3, .p), (4, .p), (5, .p), (6, .p), (7, .p)] (by kernel_rfl) ?_
  have hS0 : True := trivial
  (repeat ((first | (refine C_p (v := ?_) rfl rfl (fun w' => ?_) ?_; rotate_left; (go_simp; with_reducible rfl)) | (refine C_s (v := ?_) rfl rfl hS0 (fun w' hS => ?_) ?_; rotate_left; ((try dsimp only at hS); go_simp; with_reducible rfl)) | (refine C_t (v := ?_) rfl rfl ?_ ?_; rotate_left; (go_simp; with_reducible rfl)) | (refine C_po rfl rfl ?_) | (refine C_so rfl rfl hS0 ?_) | (refine C_to rfl rfl ?_)); simp only [Act.put, List.setIfInBounds_toArray, List.set_cons_zero, List.set_cons_succ]))
  refine C_nil ?_
  clear hdx hdy hux huy
  have h3 := h2.drew
  obtain ⟨w3, hw3⟩ : ∃ w3, w3 = w2.drew := ⟨_, rfl⟩
  rw [← hw3] at h3 ⊢
  clear hw3 h2
  have bad : (1099511627776 < x ∨ 1048576 < y) → buildR neg n d = (⟨0, 0⟩, 5) := fun hh => by rw [EB.out, if_pos hh]
  have BAD := Lib.hid bad
  clear bad
  by_cases c1 : 1099511627776 < x
  · have c1I : (1099511627776 : Int) < x := by omega
    obtain ⟨k0, k1, k2, k3⟩ := rt2 h3
    have h4 := rt2_set h3 (.int .i64 0) (.int .i64 0)
    obtain ⟨w4, hw4⟩ : ∃ w4, w4 = (w3.setCell ⟨B, 0, none⟩ (.int .i64 0)).setCell ⟨B, 1, none⟩ (.int .i64 0) := ⟨_, rfl⟩
    rw [← hw4] at h4
    obtain ⟨d0, d1, -, -⟩ := rt2 h4
    have HW4 := Lib.hid hw4
    clear hw4
    go_wp2
    rw [← HW4.out]
    exact bodyPost_ret (v := .tuple #[.agg #[.int .i64 0, .int .i64 0], .int .i64 5]) (by simp [results, Tryz.results67, go_sem, d0, d1]) rfl ⟨by rw [BAD.out (.inl c1)], h4.forget⟩
  · have c1I : ¬ (1099511627776 : Int) < x := by omega
    by_cases c2 : 1048576 < y
    · have c2I : (1048576 : Int) < y := by omega
      obtain ⟨k0, k1, k2, k3⟩ := rt2 h3
      have h4 := rt2_set h3 (.int .i64 0) (.int .i64 0)
      obtain ⟨w4, hw4⟩ : ∃ w4, w4 = (w3.setCell ⟨B, 0, none⟩ (.int .i64 0)).setCell ⟨B, 1, none⟩ (.int .i64 0) := ⟨_, rfl⟩
      rw [← hw4] at h4
      obtain ⟨d0, d1, -, -⟩ := rt2 h4
      have HW4 := Lib.hid hw4
      clear hw4
      go_wp2
      rw [← HW4.out]
      exact bodyPost_ret (v := .tuple #[.agg #[.int .i64 0, .int .i64 0], .int .i64 5]) (by simp [results, Tryz.results67, go_sem, d0, d1]) rfl ⟨by rw [BAD.out (.inr c2)], h4.forget⟩
    · have c2I : ¬ (1048576 : Int) < y := by omega
      have e1 : IntKind.i64.wrap (x : Int) = x := IntWalk.i64_in _ (by omega)
      have e2 : IntKind.i64.wrap (y : Int) = y := IntWalk.i64_in _ (by omega)
      have eB2 := EB.out
      rw [if_neg (by omega)] at eB2
      have EB2 := Lib.hid eB2
      have g1 := h3.alloc (.cells #[.int .i64 x, .int .i64 y] 44)
      obtain ⟨C, hC⟩ : ∃ C, C = w3.heap.size := ⟨_, rfl⟩
      obtain ⟨w4, hw4⟩ : ∃ w4, w4 = w3.alloc (.cells #[.int .i64 x, .int .i64 y] 44) := ⟨_, rfl⟩
      rw [← hC, ← hw4] at g1
      have HC := Lib.hid hC
      have HW4 := Lib.hid hw4
      clear EB eB2 BAD hC hw4 h3
      go_upto_region 6 with (fail)
      rw [← HC.out, ← HW4.out]
      cases neg with
      | true =>
        have e3 : IntKind.i64.wrap (-(x : Int)) = -x := IntWalk.i64_in _ (by omega)
        obtain ⟨k0, k1, k2, k3⟩ := rt2 g1
        have g2 := (g1.setCell 0 (.int .i64 (-(x : Int)))).p1
        obtain ⟨w5, hw5⟩ : ∃ w5, w5 = w4.setCell ⟨C, 0, none⟩ (.int .i64 (-(x : Int))) := ⟨_, rfl⟩
        rw [← hw5] at g2
        have HW5 := Lib.hid hw5
        clear hw5 g1
        go_upto_region 8 with (fail)
        clear k0 k1 k2 k3
        rw [← HW5.out]
        obtain ⟨k0, k1, -, -⟩ := rt2 g2.p1
        obtain ⟨b0, b1, b2, b3⟩ := rt2 g2
        have g3 := rt2_set g2 (.int .i64 (-(x : Int))) (.int .i64 y)
        obtain ⟨w6, hw6⟩ : ∃ w6, w6 = (w5.setCell ⟨B, 0, none⟩ (.int .i64 (-(x : Int)))).setCell ⟨B, 1, none⟩ (.int .i64 y) := ⟨_, rfl⟩
        rw [← hw6] at g3
        obtain ⟨d0, d1, -, -⟩ := rt2 g3
        have HW6 := Lib.hid hw6
        clear hw6
        go_wp2
        rw [← HW6.out]
        exact bodyPost_ret (v := .tuple #[.agg #[.int .i64 (-(x : Int)), .int .i64 y], .int .i64 0]) (by simp [results, Tryz.results67, go_sem, d0, d1]) rfl ⟨by rw [EB2.out]; rfl, g3.forget.forget⟩
      | false =>
        obtain ⟨k0, k1, -, -⟩ := rt2 g1
        obtain ⟨b0, b1, b2, b3⟩ := rt2 g1.p1
        have g3 := rt2_set g1.p1 (.int .i64 x) (.int .i64 y)
        obtain ⟨w6, hw6⟩ : ∃ w6, w6 = (w4.setCell ⟨B, 0, none⟩ (.int .i64 x)).setCell ⟨B, 1, none⟩ (.int .i64 y) := ⟨_, rfl⟩
        rw [← hw6] at g3
        obtain ⟨d0, d1, -, -⟩ := rt2 g3
        have HW6 := Lib.hid hw6
        clear hw6
        go_wp2
        rw [← HW6.out]
        exact bodyPost_ret (v := .tuple #[.agg #[.int .i64 x, .int .i64 y], .int .i64 0]) (by simp [results, Tryz.results67, go_sem, d0, d1]) rfl ⟨by rw [EB2.out]; rfl, g3.forget.forget⟩
end Go.Proofs.YtfapiopnjllnnaaGreatDoor
