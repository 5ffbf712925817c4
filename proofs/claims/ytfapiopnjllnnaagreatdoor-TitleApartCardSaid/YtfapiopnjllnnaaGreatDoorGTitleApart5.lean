/- Package ratio: gcd, size, build, New, Valid, Add, Sub. -/
import Derived.Test.YtfapiopnjllnnaaGreatDoorGTitleApart4
import Derived.Test.YtfapiopnjllnnaaGreatDoorReg
import Derived.Test.YtfapiopnjllnnaaGreatDoorProg
import Derived.Deep.DeepCutAuto
import Derived.Test.YtfapiopnjllnnaaGreatDoorRows
import Derived.Laws.StructEq
namespace Go.Proofs.YtfapiopnjllnnaaGreatDoor
open Go.RowKit PA
set_option maxHeartbeats 1000000 in
theorem gcd_spec {W w : World} {A : Assn} (a b : Nat) (ha : a < 18446744073709551616) (hb : b < 18446744073709551616) (h : Sat W w A) :
    Calls Tryz.prog 94 #[.int .u64 a, .int .u64 b] w fun e w' => e = .returned (.int .u64 (Nat.gcd a b : Nat)) ∧ Sat W w' A := by
  obtain ⟨g, hg⟩ : ∃ g, g = Nat.gcd a b := ⟨_, rfl⟩
  rw [← hg]
  have HG := Lib.hid hg
  clear hg
  go_enter Tryz.func94, Tryz.ntmps94
  go_wp2
  go_loopw [0, 1] (fun av bv wr => ∃ x y : Nat, av = .int .u64 x ∧ bv = .int .u64 y ∧ x < 18446744073709551616 ∧ y < 18446744073709551616 ∧ Nat.gcd x y = g ∧ Sat W wr A) (fun _ bv _ => (intOf bv).toNat)
  case atStart => exact ⟨a, b, rfl, rfl, ha, hb, HG.out.symm, h⟩
  case round =>
    obtain ⟨x, y, rfl, rfl, hx, hy, hxy, hS⟩ := hrel
    have HXY := Lib.hid hxy
    clear hxy
    by_cases h0 : 0 < y
    · have h0I : (0 : Int) < y := by omega
      have hy0 : ¬ y = 0 := by omega
      obtain ⟨z, hz⟩ : ∃ z, z = x % y := ⟨_, rfl⟩
      have hm : (x : Int).tmod (y : Int) = (z : Int) := by rw [hz, Int.tmod_eq_emod_of_nonneg (by omega)]; omega
      have hm2 : z < y := by rw [hz]; exact Nat.mod_lt _ h0
      have HZ := Lib.hid hz
      clear hz
      go_wp2
      refine wp_region_canon rfl (fun _ => True) [(0, .p), (1, .p), (2, .p), (3, .p), (4, .p), (5, .p)] (by kernel_rfl) ?_
      have hS0 : True := trivial
      (repeat ((first | (refine C_p (v := ?_) rfl rfl (fun w' => ?_) ?_; rotate_left; (go_simp; with_reducible rfl)) | (refine C_s (v := ?_) rfl rfl hS0 (fun w' hS => ?_) ?_; rotate_left; ((try dsimp only at hS); go_simp; with_reducible rfl)) | (refine C_t (v := ?_) rfl rfl ?_ ?_; rotate_left; (go_simp; with_reducible rfl)) | (refine C_po rfl rfl ?_) | (refine C_so rfl rfl hS0 ?_) | (refine C_to rfl rfl ?_)); simp only [Act.put, List.setIfInBounds_toArray, List.set_cons_zero, List.set_cons_succ]))
      refine C_nil ?_
      go_wp2
      go_roundw
      case rel => exact ⟨y, z, rfl, rfl, hy, by omega, by rw [HZ.out, ← HXY.out, Nat.gcd_comm y, ← Nat.gcd_rec, Nat.gcd_comm], hS.drew⟩
      case measure => simp [intOf]; omega
    · obtain rfl : y = 0 := by omega
      go_wp2
      go_ret
      exact ⟨by rw [← HXY.out]; simp, hS⟩
theorem size_spec (n : Int) (h1 : -9223372036854775808 ≤ n) (h2 : n ≤ 9223372036854775807) (w : World) :
    Calls Tryz.prog 68 #[.int .i64 n] w fun e w' => e = .returned (.int .u64 (n.natAbs : Nat)) ∧ w = w' := by
  by_cases hn : n < 0
  · have e1 : IntKind.u64.wrap n = n + 18446744073709551616 := by rw [IntKind.wrap_u64]; omega
    have e2 : IntKind.u64.wrap (-(n + 18446744073709551616)) = (n.natAbs : Int) := by rw [IntKind.wrap_u64]; omega
    go_enter Tryz.func68, Tryz.ntmps68
    go_wp2
    go_ret
    exact ⟨rfl, rfl⟩
  · have e1 : IntKind.u64.wrap n = (n.natAbs : Int) := by rw [IntKind.wrap_u64]; omega
    go_enter Tryz.func68, Tryz.ntmps68
    go_wp2
    go_ret
    exact ⟨rfl, rfl⟩
/-- The two cells of a ratio in memory. -/
theorem rt2 {W w : World} {A : Assn} {q : Nat} {u v : Value} {t : TypeId} (h : Sat W w (sep (blk q (.cells #[u, v] t (0, 0))) A)) :
    w.cell? ⟨q, 0, none⟩ = some u ∧ w.cell? ⟨q, 1, none⟩ = some v ∧ w.frozen? ⟨q, 0, none⟩ = false ∧ w.frozen? ⟨q, 1, none⟩ = false := ⟨h.cell 0, h.cell 1, h.unfrozen 0, h.unfrozen 1⟩
theorem rt2_set {W w : World} {A : Assn} {q : Nat} {u v : Value} {t : TypeId} (h : Sat W w (sep (blk q (.cells #[u, v] t (0, 0))) A)) (x y : Value) :
    Sat W ((w.setCell ⟨q, 0, none⟩ x).setCell ⟨q, 1, none⟩ y) (sep (blk q (.cells #[x, y] t (0, 0))) A) := (h.setCell 0 x).setCell 1 y
def rtC (r : Rt) : Array Value := #[.int .i64 r.n, .int .i64 r.d]
set_option maxHeartbeats 1000000 in
theorem build_spec {W w : World} {A : Assn} (neg : Bool) (n d : Nat) (hn : n < 18446744073709551616) (hd : d < 18446744073709551616) (h0 : 0 < d) (h : Sat W w A) :
    Calls Tryz.prog 67 #[.bool neg, .int .u64 n, .int .u64 d] w fun e w' => e = .returned (.tuple #[.agg #[.int .i64 (buildR neg n d).1.n, .int .i64 (buildR neg n d).1.d], .int .i64 (buildR neg n d).2]) ∧ Sat W w' A := by
  obtain ⟨g, hg⟩ : ∃ g, g = Nat.gcd n d := ⟨_, rfl⟩
  have hg0 : 0 < g := by rw [hg]; exact Nat.gcd_pos_of_pos_right _ h0
  have hg1 : ¬ g = 0 := by omega
  have hgl : g < 18446744073709551616 := by rw [hg]; exact Nat.lt_of_le_of_lt (Nat.gcd_le_right _ h0) hd
  obtain ⟨x, hx⟩ : ∃ x, x = n / g := ⟨_, rfl⟩
  obtain ⟨y, hy⟩ : ∃ y, y = d / g := ⟨_, rfl⟩
  have hxl : x ≤ n := by rw [hx]; exact Nat.div_le_self _ _
  have hyl : y ≤ d := by rw [hy]; exact Nat.div_le_self _ _
  have hdx : (n : Int).tdiv (g : Int) = (x : Int) := by rw [hx, Int.tdiv_eq_ediv_of_nonneg (by omega)]; omega
  have hdy : (d : Int).tdiv (g : Int) = (y : Int) := by rw [hy, Int.tdiv_eq_ediv_of_nonneg (by omega)]; omega
  have hgc := fun w0 (A0 : Assn) (h0 : Sat W w0 A0) => gcd_spec n d hn hd h0
  rw [← hg] at hgc
  have hux : IntKind.u64.wrap (x : Int) = x := IntWalk.u64_in _ (by omega)
  have huy : IntKind.u64.wrap (y : Int) = y := IntWalk.u64_in _ (by omega)
  have eB : buildR neg n d = if 1099511627776 < x ∨ 1048576 < y then (⟨0, 0⟩, 5) else (⟨if neg = true then -(x : Int) else (x : Int), (y : Int)⟩, 0) := by
    rw [hx, hy, hg]; rfl
  have HGC := Lib.hid hgc
  have EB := Lib.hid eB
  have h1 := h.alloc (.cells #[.int .i64 0, .int .i64 0] 44)
  obtain ⟨B, hB⟩ : ∃ B, B = w.heap.size := ⟨_, rfl⟩
  rw [← hB] at h1
  clear hgc eB hg hx hy h
  go_enter Tryz.func67, Tryz.ntmps67
  go_wp2_with fail
  rw [← hB]
  refine (HGC.out _ _ h1).mono ?_
  rintro e w2 ⟨rfl, h2⟩
  clear h1 HGC hB
  go_wp2
  refine wp_region_canon rfl (fun _ => True) [(0, .p), (1, .p), (2, .p), (3, .p), (4, .p), (5, .p), (6, .p), (7, .p)] (by kernel_rfl) ?_
  have hS0 : True := trivial
  (repeat ((first | (refine C_p (v := ?_) rfl rfl (fun w' => ?_) ?_; rotate_left; (go_simp; with_reducible rfl)) | (refine C_s (v := ?_) rfl rfl hS0 (fun w' hS => ?_) ?_; rotate_left; ((try dsimp only at hS); go_simp; with_reducible rfl)) | (refine C_t (v := ?_) rfl rfl ?_ ?_; rotate_left; (go_simp; with_reducible rfl)) | (refine C_po rfl rfl ?_) | (refine C_so rfl rfl hS0 ?_) | (refine C_to rfl rfl ?_)); simp only [Act.put, List.setIfInBounds_toArray, List.set_cons_zero, List.set_cons_succ]))
  refine C_nil ?_
  clear hdx hdy hux huy
  have h3 := h2.drew
  obtain ⟨w3, hw3⟩ : ∃ w3, w3 = w2.drew := ⟨_, rfl⟩
  rw [← hw3] at h3 ⊢
  clear hw3 h2
  have bad : (1099511627776 < x ∨ 1048576 < y) → buildR neg n d = (⟨0, 0⟩, 5) := fun hh => by rw [EB.out, if_pos hh]
  have BAD := Lib.hid bad
  clear bad
  by_cases c1 : 1099511627776 < x
  · have c1I : (1099511627776 : Int) < x := by omega
    obtain ⟨k0, k1, k2, k3⟩ := rt2 h3
    have h4 := rt2_set h3 (.int .i64 0) (.int .i64 0)
    obtain ⟨w4, hw4⟩ : ∃ w4, w4 = (w3.setCell ⟨B, 0, none⟩ (.int .i64 0)).setCell ⟨B, 1, none⟩ (.int .i64 0) := ⟨_, rfl⟩
    rw [← hw4] at h4
    obtain ⟨d0, d1, -, -⟩ := rt2 h4
    have HW4 := Lib.hid hw4
    clear hw4
    go_wp2
    rw [← HW4.out]
    exact bodyPost_ret (v := .tuple #[.agg #[.int .i64 0, .int .i64 0], .int .i64 5]) (by simp [results, Tryz.results67, go_sem, d0, d1]) rfl ⟨by rw [BAD.out (.inl c1)], h4.forget⟩
  · have c1I : ¬ (1099511627776 : Int) < x := by omega
    by_cases c2 : 1048576 < y
    · have c2I : (1048576 : Int) < y := by omega
      obtain ⟨k0, k1, k2, k3⟩ := rt2 h3
      have h4 := rt2_set h3 (.int .i64 0) (.int .i64 0)
      obtain ⟨w4, hw4⟩ : ∃ w4, w4 = (w3.setCell ⟨B, 0, none⟩ (.int .i64 0)).setCell ⟨B, 1, none⟩ (.int .i64 0) := ⟨_, rfl⟩
      rw [← hw4] at h4
      obtain ⟨d0, d1, -, -⟩ := rt2 h4
      have HW4 := Lib.hid hw4
      clear hw4
      go_wp2
      rw [← HW4.out]
      exact bodyPost_ret (v := .tuple #[.agg #[.int .i64 0, .int .i64 0], .int .i64 5]) (by simp [results, Tryz.results67, go_sem, d0, d1]) rfl ⟨by rw [BAD.out (.inr c2)], h4.forget⟩
    · have c2I : ¬ (1048576 : Int) < y := by omega
      have e1 : IntKind.i64.wrap (x : Int) = x := IntWalk.i64_in _ (by omega)
      have e2 : IntKind.i64.wrap (y : Int) = y := IntWalk.i64_in _ (by omega)
      have eB2 := EB.out
      rw [if_neg (by omega)] at eB2
      have EB2 := Lib.hid eB2
      have g1 := h3.alloc (.cells #[.int .i64 x, .int .i64 y] 44)
      obtain ⟨C, hC⟩ : ∃ C, C = w3.heap.size := ⟨_, rfl⟩
      obtain ⟨w4, hw4⟩ : ∃ w4, w4 = w3.alloc (.cells #[.int .i64 x, .int .i64 y] 44) := ⟨_, rfl⟩
      rw [← hC, ← hw4] at g1
      have HC := Lib.hid hC
      have HW4 := Lib.hid hw4
      clear EB eB2 BAD hC hw4 h3
      go_upto_region 6 with (fail)
      rw [← HC.out, ← HW4.out]
      cases neg with
      | true =>
        have e3 : IntKind.i64.wrap (-(x : Int)) = -x := IntWalk.i64_in _ (by omega)
        obtain ⟨k0, k1, k2, k3⟩ := rt2 g1
        have g2 := (g1.setCell 0 (.int .i64 (-(x : Int)))).p1
        obtain ⟨w5, hw5⟩ : ∃ w5, w5 = w4.setCell ⟨C, 0, none⟩ (.int .i64 (-(x : Int))) := ⟨_, rfl⟩
        rw [← hw5] at g2
        have HW5 := Lib.hid hw5
        clear hw5 g1
        go_upto_region 8 with (fail)
        clear k0 k1 k2 k3
        rw [← HW5.out]
        obtain ⟨k0, k1, -, -⟩ := rt2 g2.p1
        obtain ⟨b0, b1, b2, b3⟩ := rt2 g2
        have g3 := rt2_set g2 (.int .i64 (-(x : Int))) (.int .i64 y)
        obtain ⟨w6, hw6⟩ : ∃ w6, w6 = (w5.setCell ⟨B, 0, none⟩ (.int .i64 (-(x : Int)))).setCell ⟨B, 1, none⟩ (.int .i64 y) := ⟨_, rfl⟩
        rw [← hw6] at g3
        obtain ⟨d0, d1, -, -⟩ := rt2 g3
        have HW6 := Lib.hid hw6
        clear hw6
        go_wp2
        rw [← HW6.out]
        exact bodyPost_ret (v := .tuple #[.agg #[.int .i64 (-(x : Int)), .int .i64 y], .int .i64 0]) (by simp [results, Tryz.results67, go_sem, d0, d1]) rfl ⟨by rw [EB2.out]; rfl, g3.forget.forget⟩
      | false =>
        obtain ⟨k0, k1, -, -⟩ := rt2 g1
        obtain ⟨b0, b1, b2, b3⟩ := rt2 g1.p1
        have g3 := rt2_set g1.p1 (.int .i64 x) (.int .i64 y)
        obtain ⟨w6, hw6⟩ : ∃ w6, w6 = (w4.setCell ⟨B, 0, none⟩ (.int .i64 x)).setCell ⟨B, 1, none⟩ (.int .i64 y) := ⟨_, rfl⟩
        rw [← hw6] at g3
        obtain ⟨d0, d1, -, -⟩ := rt2 g3
        have HW6 := Lib.hid hw6
        clear hw6
        go_wp2
        rw [← HW6.out]
        exact bodyPost_ret (v := .tuple #[.agg #[.int .i64 x, .int .i64 y], .int .i64 0]) (by simp [results, Tryz.results67, go_sem, d0, d1]) rfl ⟨by rw [EB2.out]; rfl, g3.forget.forget⟩
end Go.Proofs.YtfapiopnjllnnaaGreatDoor
/- Package ratio: New, Valid, valid, Add, Sub. -/
namespace Go.Proofs.YtfapiopnjllnnaaGreatDoor
open Go.RowKit PA
def rtV (r : Rt) : Value := .agg #[.int .i64 r.n, .int .i64 r.d]
def rtRes (r : Rt × Int) : Value := .tuple #[.agg #[.int .i64 r.1.n, .int .i64 r.1.d], .int .i64 r.2]
set_option maxHeartbeats 1000000 in
theorem new_spec {W w : World} {A : Assn} (n d : Int) (hn1 : -9223372036854775808 ≤ n) (hn2 : n ≤ 9223372036854775807) (hd1 : -9223372036854775808 ≤ d) (hd2 : d ≤ 9223372036854775807) (h : Sat W w A) :
    Calls Tryz.prog 42 #[.int .i64 n, .int .i64 d] w fun e w' => e = .returned (rtRes (newR n d)) ∧ Sat W w' A := by
  obtain ⟨r, hr⟩ : ∃ r, r = newR n d := ⟨_, rfl⟩
  rw [← hr]
  have HR := Lib.hid hr
  have h1 := h.alloc (.cells #[.int .i64 0, .int .i64 0] 44)
  obtain ⟨B, hB⟩ : ∃ B, B = w.heap.size := ⟨_, rfl⟩
  obtain ⟨w1, hw1⟩ : ∃ w1, w1 = w.alloc (.cells #[.int .i64 0, .int .i64 0] 44) := ⟨_, rfl⟩
  rw [← hB, ← hw1] at h1
  have HB := Lib.hid hB
  have HW1 := Lib.hid hw1
  clear hB hw1 h hr
  go_enter Tryz.func42, Tryz.ntmps42
  go_upto_region 1 with (fail)
  rw [← HB.out, ← HW1.out]
  by_cases h0 : d = 0
  · subst h0
    obtain ⟨k0, k1, k2, k3⟩ := rt2 h1
    have h4 := rt2_set h1 (.int .i64 0) (.int .i64 0)
    obtain ⟨w4, hw4⟩ : ∃ w4, w4 = (w1.setCell ⟨B, 0, none⟩ (.int .i64 0)).setCell ⟨B, 1, none⟩ (.int .i64 0) := ⟨_, rfl⟩
    rw [← hw4] at h4
    obtain ⟨d0, d1, -, -⟩ := rt2 h4
    have HW4 := Lib.hid hw4
    clear hw4
    go_wp2
    rw [← HW4.out]
    exact bodyPost_ret (v := .tuple #[.agg #[.int .i64 0, .int .i64 0], .int .i64 1]) (by simp [results, Tryz.results42, go_sem, d0, d1]) rfl ⟨by rw [HR.out]; rfl, h4.forget⟩
  · obtain ⟨neg, hneg⟩ : ∃ neg, (!(decide (n < 0) == decide (d < 0))) = neg := ⟨_, rfl⟩
    have eN : buildR neg n.natAbs d.natAbs = r := by rw [HR.out]; unfold newR; rw [if_neg h0, ← hneg]; rfl
    have hs1 := fun w0 => size_spec n hn1 hn2 w0
    have hs2 := fun w0 => size_spec d hd1 hd2 w0
    have hb := fun w0 (A0 : Assn) (hh : Sat W w0 A0) => build_spec neg n.natAbs d.natAbs (by omega) (by omega) (by omega) hh
    rw [eN] at hb
    obtain ⟨a1, ha1⟩ : ∃ a1, a1 = n.natAbs := ⟨_, rfl⟩
    obtain ⟨a2, ha2⟩ : ∃ a2, a2 = d.natAbs := ⟨_, rfl⟩
    rw [← ha1] at hs1 hb
    rw [← ha2] at hs2 hb
    have HS1 := Lib.hid hs1
    have HS2 := Lib.hid hs2
    have HBB := Lib.hid hb
    clear hs1 hs2 hb ha1 ha2 eN HR
    go_wp2_with fail
    refine (HS1.out _).mono ?_
    rintro e w2 ⟨rfl, rfl⟩
    go_wp2_with fail
    refine (HS2.out _).mono ?_
    rintro e w2 ⟨rfl, rfl⟩
    clear HS1 HS2
    go_wp2_with fail
    refine (HBB.out _ _ h1).mono ?_
    rintro e w2 ⟨rfl, h2⟩
    obtain ⟨⟨rn, rd⟩, re⟩ := r
    clear HBB h1 hneg
    obtain ⟨k0, k1, k2, k3⟩ := rt2 h2
    have h4 := rt2_set h2 (.int .i64 rn) (.int .i64 rd)
    obtain ⟨w4, hw4⟩ : ∃ w4, w4 = (w2.setCell ⟨B, 0, none⟩ (.int .i64 rn)).setCell ⟨B, 1, none⟩ (.int .i64 rd) := ⟨_, rfl⟩
    rw [← hw4] at h4
    obtain ⟨d0, d1, -, -⟩ := rt2 h4
    have HW4 := Lib.hid hw4
    clear hw4
    go_wp2
    rw [← HW4.out]
    exact bodyPost_ret (v := .tuple #[.agg #[.int .i64 rn, .int .i64 rd], .int .i64 re]) (by simp [results, Tryz.results42, go_sem, d0, d1]) rfl ⟨rfl, h4.forget⟩
theorem rt_neq (w : World) (a b c d : Int) : (binOp .neq 44 (.agg #[.int .i64 a, .int .i64 b]) (.agg #[.int .i64 c, .int .i64 d])).run Tryz.prog w = .ok (.bool (!(a == c && b == d))) w := by
  have h1 : Tryz.prog.underlying 44 = some (.struct (Tryz.prog.fieldsOf 44)) := by kernel_rfl
  have h2 : Tryz.prog.stoodInHeld 44 = false := by kernel_rfl
  have e := run_equalIn_struct (P := Tryz.prog) w 9999 44 #[.int .i64 a, .int .i64 b] #[.int .i64 c, .int .i64 d] h1 h2
  rw [run_neq_struct, e]
  clear e
  have q0 : ∀ a b : Int, (part 3 #[.int .i64 a, .int .i64 b] 0).run Tryz.prog w = .ok (.int .i64 a) w := fun a b => by kernel_rfl
  have q1 : ∀ a b : Int, (part 3 #[.int .i64 a, .int .i64 b] 1).run Tryz.prog w = .ok (.int .i64 b) w := fun a b => by kernel_rfl
  have r0 : ∀ a b : Int, (Op.equalIn 9999 3 (.int .i64 a) (.int .i64 b)).run Tryz.prog w = .ok (a == b) w := fun a b => run_equalIn_int (P := Tryz.prog) w 9998 3 .i64 .i64 a b Tryz.underlying3
  by_cases e1 : a = c
  · by_cases e2 : b = d
    · simp [Program.fieldsOf, Tryz.underlying44, Op.eqFields, q0, q1, r0, e1, e2]
    · simp [Program.fieldsOf, Tryz.underlying44, Op.eqFields, q0, q1, r0, e1, e2]
  · simp [Program.fieldsOf, Tryz.underlying44, Op.eqFields, q0, r0, e1]
set_option maxHeartbeats 1000000 in
theorem validR_spec {W w : World} {A : Assn} (r : Rt) (hn1 : -9223372036854775808 ≤ r.n) (hn2 : r.n ≤ 9223372036854775807) (hd1 : -9223372036854775808 ≤ r.d) (hd2 : r.d ≤ 9223372036854775807) (h : Sat W w A) :
    Calls Tryz.prog 66 #[.agg #[.int .i64 r.n, .int .i64 r.d]] w fun e w' => e = .returned (.int .i64 (if okR r = true then 0 else 1)) ∧ Sat W w' A := by
  obtain ⟨n, d⟩ := r
  simp only at hn1 hn2 hd1 hd2 ⊢
  obtain ⟨ok, hok⟩ : ∃ ok, ok = okR ⟨n, d⟩ := ⟨_, rfl⟩
  rw [← hok]
  obtain ⟨rv, hrv⟩ : ∃ rv : Int, rv = if ok = true then 0 else 1 := ⟨_, rfl⟩
  rw [← hrv]
  have HOK := Lib.hid hok
  have HRV := Lib.hid hrv
  have h1 := h.alloc (.cells #[.int .i64 n, .int .i64 d] 44)
  obtain ⟨k0, k1, -, -⟩ := rt2 h1
  clear hok hrv h
  by_cases c1 : d < 1
  · obtain rfl : ok = false := by rw [HOK.out]; unfold okR; rw [decide_eq_false (by show ¬ 1 ≤ d; omega)]; rfl
    go_enter Tryz.func66, Tryz.ntmps66
    go_wp2
    go_ret
    exact ⟨by rw [HRV.out]; rfl, h1.forget⟩
  · have hnew := new_spec n d hn1 hn2 hd1 hd2 h1
    obtain ⟨⟨⟨rn, rd⟩, re⟩, hr⟩ : ∃ r, r = newR n d := ⟨_, rfl⟩
    rw [← hr] at hnew
    have hnew2 : Calls Tryz.prog 42 #[.int .i64 n, .int .i64 d] (w.alloc (.cells #[.int .i64 n, .int .i64 d] 44)) fun e w' => e = .returned (.tuple #[.agg #[.int .i64 rn, .int .i64 rd], .int .i64 re]) ∧ Sat W w' (sep (blk w.heap.size (.cells #[.int .i64 n, .int .i64 d] 44)) A) := hnew
    have HNEW := Lib.hid hnew2
    have HR := Lib.hid hr
    clear hr hnew hnew2
    go_enter Tryz.func66, Tryz.ntmps66
    go_wp2_with fail
    refine HNEW.out.mono ?_
    rintro e w2 ⟨rfl, h2⟩
    clear k0 k1 h1 HNEW
    have h3 := h2.alloc (.cells #[.int .i64 rn, .int .i64 rd] 44)
    obtain ⟨k0, k1, -, -⟩ := rt2 h3
    obtain ⟨j0, j1, -, -⟩ := rt2 h3.p1
    obtain ⟨C, hC⟩ : ∃ C, C = w2.heap.size := ⟨_, rfl⟩
    obtain ⟨B, hB⟩ : ∃ B, B = w.heap.size := ⟨_, rfl⟩
    obtain ⟨w3, hw3⟩ : ∃ w3, w3 = w2.alloc (.cells #[.int .i64 rn, .int .i64 rd] 44) := ⟨_, rfl⟩
    rw [← hC, ← hB, ← hw3] at h3
    rw [← hC, ← hw3] at k0 k1
    rw [← hB, ← hw3] at j0 j1
    have HC := Lib.hid hC
    have HB := Lib.hid hB
    have HW3 := Lib.hid hw3
    have h4 := h3.forget.forget
    clear hC hB hw3 h2 h3
    go_upto_region 4 with (fail)
    rw [← HC.out, ← HB.out, ← HW3.out]
    have hg := fun w0 => rt_neq w0 rn rd n d
    by_cases c2 : re = 0
    · subst c2
      obtain ⟨eq, heq⟩ : ∃ eq, eq = !(rn == n && rd == d) := ⟨_, rfl⟩
      rw [← heq] at hg
      have hko : ok = !eq := by
        rw [HOK.out]
        unfold okR
        rw [← HR.out, decide_eq_true (show 1 ≤ d by omega), heq]
        by_cases e1 : rn = n
        · by_cases e2 : rd = d
          · simp [e1, e2]
          · simp [e1, e2]
        · simp [e1]
      have HKO := Lib.hid hko
      clear heq hko
      cases eq with
      | true =>
        go_wp2
        go_ret
        exact ⟨by rw [HRV.out, HKO.out]; rfl, h4⟩
      | false =>
        go_wp2
        go_ret
        exact ⟨by rw [HRV.out, HKO.out]; rfl, h4⟩
    · obtain rfl : ok = false := by
        rw [HOK.out]
        unfold okR
        rw [← HR.out]
        have : ¬ (((⟨rn, rd⟩ : Rt), re) = (⟨n, d⟩, 0)) := fun e => c2 (Prod.mk.inj e).2
        rw [decide_eq_false this, Bool.and_false]
      have hz : (re != 0) = true := by simp [c2]
      go_wp2
      go_ret
      exact ⟨by rw [HRV.out]; rfl, h4⟩
structure RtB (r : Rt) : Prop where
  n1 : -9223372036854775808 ≤ r.n
  n2 : r.n ≤ 9223372036854775807
  d1 : -9223372036854775808 ≤ r.d
  d2 : r.d ≤ 9223372036854775807
theorem RtB.of {r : Rt} (h : Rok r) : RtB r := ⟨by have := h.n1; omega, by have := h.n2; omega, by have := h.d1; omega, by have := h.d2; omega⟩
set_option maxHeartbeats 1000000 in
theorem valids_spec {W w : World} {A : Assn} (a b : Rt) (ha : RtB a) (hb : RtB b) (C : Nat) (h : Sat W w (sep (blk C (.cells #[.int .i64 a.n, .int .i64 a.d, .int .i64 b.n, .int .i64 b.d] 44 (0, 0))) A)) :
    Calls Tryz.prog 41 #[.slice (some ⟨C, 0, none⟩) 2 2] w fun e w' => e = .returned (.int .i64 (if okR a = true ∧ okR b = true then 0 else 1)) ∧ Sat W w' A := by
  obtain ⟨rv, hrv⟩ : ∃ rv : Int, rv = if okR a = true ∧ okR b = true then 0 else 1 := ⟨_, rfl⟩
  rw [← hrv]
  have HRV := Lib.hid hrv
  have HA := fun w0 (A0 : Assn) (h0 : Sat W w0 A0) => validR_spec a ha.n1 ha.n2 ha.d1 ha.d2 h0
  have HB := fun w0 (A0 : Assn) (h0 : Sat W w0 A0) => validR_spec b hb.n1 hb.n2 hb.d1 hb.d2 h0
  obtain ⟨oa, hoa⟩ : ∃ oa, oa = okR a := ⟨_, rfl⟩
  obtain ⟨ob, hob⟩ : ∃ ob, ob = okR b := ⟨_, rfl⟩
  rw [← hoa] at HA
  rw [← hob] at HB
  have HOA := Lib.hid hoa
  have HOB := Lib.hid hob
  have HHA := Lib.hid HA
  have HHB := Lib.hid HB
  obtain ⟨an, ad⟩ := a
  obtain ⟨bn, bd⟩ := b
  clear hrv hoa hob HA HB ha hb
  go_enter Tryz.func41, Tryz.ntmps41
  go_wp2
  go_loopw [8] (fun kv wr => ∃ k : Nat, kv = .int .i64 k ∧ k ≤ 2 ∧ (1 ≤ k → oa = true) ∧ (2 ≤ k → ob = true) ∧ Sat W wr (sep (blk C (.cells #[.int .i64 an, .int .i64 ad, .int .i64 bn, .int .i64 bd] 44 (0, 0))) A)) (fun kv _ => 2 - (intOf kv).toNat)
  case atStart => exact ⟨0, rfl, by omega, by omega, by omega, h⟩
  case round =>
    obtain ⟨k, rfl, hk, q1, q2, hS⟩ := hrel
    have Q1 := Lib.hid q1
    have Q2 := Lib.hid q2
    clear q1 q2
    obtain rfl | rfl | rfl : k = 0 ∨ k = 1 ∨ k = 2 := by omega
    · have c0 : wr.cell? ⟨C, 0, none⟩ = some (.int .i64 an) := hS.cell 0
      have c1 : wr.cell? ⟨C, 1, none⟩ = some (.int .i64 ad) := hS.cell 1
      have h2 := hS.alloc0 (.cells #[.int .i64 an, .int .i64 ad] 44)
      clear hS
      go_wp2_with fail
      refine (HHA.out _ _ h2).mono ?_
      rintro e w3 ⟨rfl, h3⟩
      clear c0 c1 h2
      cases oa with
      | true =>
        go_wp2_with fail
        go_roundw
        case rel => exact ⟨1, rfl, by omega, fun _ => (by first | rfl | trivial), by omega, h3⟩
        case measure => simp [intOf]
      | false =>
        go_wp2_with fail
        go_ret
        exact ⟨by rw [HRV.out, if_neg (by rw [← HOA.out]; simp)]; rfl, h3.forget⟩
    · have c0 : wr.cell? ⟨C, 2, none⟩ = some (.int .i64 bn) := hS.cell 2
      have c1 : wr.cell? ⟨C, 3, none⟩ = some (.int .i64 bd) := hS.cell 3
      have h2 := hS.alloc0 (.cells #[.int .i64 bn, .int .i64 bd] 44)
      clear hS
      go_wp2_with fail
      refine (HHB.out _ _ h2).mono ?_
      rintro e w3 ⟨rfl, h3⟩
      clear c0 c1 h2
      cases ob with
      | true =>
        go_wp2_with fail
        go_roundw
        case rel => exact ⟨2, rfl, by omega, fun _ => Q1.out (by omega), fun _ => (by first | rfl | trivial), h3⟩
        case measure => simp [intOf]
      | false =>
        go_wp2_with fail
        go_ret
        exact ⟨by rw [HRV.out, if_neg (by rw [← HOB.out]; simp)]; rfl, h3.forget⟩
    · go_wp2_with fail
      go_ret
      exact ⟨by rw [HRV.out, if_pos ⟨by rw [← HOA.out]; exact Q1.out (by omega), by rw [← HOB.out]; exact Q2.out (by omega)⟩]; rfl, hS.forget⟩
end Go.Proofs.YtfapiopnjllnnaaGreatDoor
