/- The reference's common, Valid, Less of ratios. -/
import Derived.Test.YtodipneapffjdaaGreatDoorGActsSort6
namespace PA
open Go
theorem okR_iff (n d : Int) : okR ⟨n, d⟩ = true ↔ 1 ≤ d ∧ d ≤ 1048576 ∧ n ≤ 1099511627776 ∧ -1099511627776 ≤ n ∧ Nat.gcd n.natAbs d.natAbs = 1 := by
  constructor
  · intro h
    have hr := (okR_spec h).1
    exact ⟨hr.d1, hr.d2, hr.n2, hr.n1, newR_den n d (by have := hr.d1; simp only at this; omega) h⟩
  · rintro ⟨h1, h2, h3, h4, h5⟩
    exact okR_mk n d h1 h2 (by omega) h5
end PA
namespace Go.Proofs.YtodipneapffjdaaGreatDoor
open Go.RowKit PA
set_option maxHeartbeats 1000000 in
theorem rcommon_spec {W w : World} {A : Assn} (a b : Int) (ha : a.natAbs ≤ 1099511627776) (hb : b.natAbs ≤ 1099511627776) (h : Sat W w A) :
    Calls Tryz.prog 105 #[.int .i64 a, .int .i64 b] w fun e w' => e = .returned (.int .i64 (Nat.gcd a.natAbs b.natAbs : Nat)) ∧ Sat W w' A := by
  obtain ⟨g, hg⟩ : ∃ g, g = Nat.gcd a.natAbs b.natAbs := ⟨_, rfl⟩
  rw [← hg]
  have HG := Lib.hid hg
  clear hg
  go_enter Tryz.func105, Tryz.ntmps105
  go_wp2
  go_loopw [0, 1] (fun av bv wr => ∃ x y : Int, av = .int .i64 x ∧ bv = .int .i64 y ∧ x.natAbs ≤ 1099511627776 ∧ y.natAbs ≤ 1099511627776 ∧ Hid (Nat.gcd x.natAbs y.natAbs = g) ∧ Sat W wr A) (fun _ bv _ => (intOf bv).natAbs)
  case atStart => exact ⟨a, b, rfl, rfl, ha, hb, Lib.hid HG.out.symm, h⟩
  case round =>
    obtain ⟨x, y, rfl, rfl, hx, hy, HXY, hS⟩ := hrel
    by_cases h0 : y = 0
    · subst h0
      have hxg : x.natAbs = g := by rw [← HXY.out]; simp
      have HGG := Lib.hid hxg
      by_cases hneg : x < 0
      · have ew : -x = (g : Int) := by omega
        clear hxg HG ha hb h
        go_wp2
        go_ret
        exact ⟨by simp, hS⟩
      · have ew : x = (g : Int) := by omega
        clear hxg HG ha hb h
        go_wp2
        go_ret
        exact ⟨rfl, hS⟩
    · obtain ⟨z, hz⟩ : ∃ z, z = Int.tmod x y := ⟨_, rfl⟩
      have hm : Int.tmod x y = z := hz.symm
      have hzn : z.natAbs = x.natAbs % y.natAbs := by rw [hz, Int.natAbs_tmod]
      have hzl : z.natAbs < y.natAbs := by rw [hzn]; exact Nat.mod_lt _ (by omega)
      have hyx : (y == 0) = false := by simpa using h0
      have HZ := Lib.hid hzn
      clear hz hzn ha hb h
      go_wp2
      refine wp_region_canon rfl (fun _ => True) [(0, .p), (1, .p), (2, .p), (3, .p), (4, .p), (5, .p)] (by kernel_rfl) ?_
      have hS0 : True := trivial
      (repeat ((first | (refine C_p (v := ?_) rfl rfl (fun w' => ?_) ?_; rotate_left; (go_simp; with_reducible rfl)) | (refine C_s (v := ?_) rfl rfl hS0 (fun w' hS => ?_) ?_; rotate_left; ((try dsimp only at hS); go_simp; with_reducible rfl)) | (refine C_t (v := ?_) rfl rfl ?_ ?_; rotate_left; (go_simp; with_reducible rfl)) | (refine C_po rfl rfl ?_) | (refine C_so rfl rfl hS0 ?_) | (refine C_to rfl rfl ?_)); simp only [Act.put, List.setIfInBounds_toArray, List.set_cons_zero, List.set_cons_succ]))
      refine C_nil ?_
      go_wp2
      go_roundw
      case rel => exact ⟨y, z, rfl, rfl, hy, by omega, Lib.hid (by rw [HZ.out, ← HXY.out, Nat.gcd_comm y.natAbs, ← Nat.gcd_rec, Nat.gcd_comm]), hS.drew⟩
      case measure => simp [intOf]; omega
theorem rt_eql (w : World) (a b c d : Int) : (binOp .eql 27 (.agg #[.int .i64 a, .int .i64 b]) (.agg #[.int .i64 c, .int .i64 d])).run Tryz.prog w = .ok (.bool (a == c && b == d)) w := by
  have h1 : Tryz.prog.underlying 27 = some (.struct (Tryz.prog.fieldsOf 27)) := by kernel_rfl
  have h2 : Tryz.prog.stoodInHeld 27 = false := by kernel_rfl
  have e := run_equalIn_struct (P := Tryz.prog) w 9999 27 #[.int .i64 a, .int .i64 b] #[.int .i64 c, .int .i64 d] h1 h2
  rw [run_eql_struct, e]
  clear e
  have q0 : ∀ a b : Int, (part 3 #[.int .i64 a, .int .i64 b] 0).run Tryz.prog w = .ok (.int .i64 a) w := fun a b => by kernel_rfl
  have q1 : ∀ a b : Int, (part 3 #[.int .i64 a, .int .i64 b] 1).run Tryz.prog w = .ok (.int .i64 b) w := fun a b => by kernel_rfl
  have r0 : ∀ a b : Int, (Op.equalIn 9999 3 (.int .i64 a) (.int .i64 b)).run Tryz.prog w = .ok (a == b) w := fun a b => run_equalIn_int (P := Tryz.prog) w 9998 3 .i64 .i64 a b Tryz.underlying3
  by_cases e1 : a = c
  · by_cases e2 : b = d
    · simp [Program.fieldsOf, Tryz.underlying27, Op.eqFields, q0, q1, r0, e1, e2]
    · simp [Program.fieldsOf, Tryz.underlying27, Op.eqFields, q0, q1, r0, e1, e2]
  · simp [Program.fieldsOf, Tryz.underlying27, Op.eqFields, q0, r0, e1]
def r01 (b : Bool) : Int := if b = true then 0 else 1
set_option maxHeartbeats 1000000 in
theorem rvalidR_spec {W w : World} {A : Assn} (n d : Int) (h : Sat W w A) :
    Calls Tryz.prog 81 #[.agg #[.int .i64 n, .int .i64 d]] w fun e w' => e = .returned (.int .i64 (r01 (okR ⟨n, d⟩))) ∧ Sat W w' A := by
  have hiff := okR_iff n d
  have h1 := h.alloc (.cells #[.int .i64 n, .int .i64 d] 27)
  obtain ⟨B, hB⟩ : ∃ B, B = w.heap.size := ⟨_, rfl⟩
  obtain ⟨w1, hw1⟩ : ∃ z, z = w.alloc (.cells #[.int .i64 n, .int .i64 d] 27) := ⟨_, rfl⟩
  rw [← hB, ← hw1] at h1
  obtain ⟨k0, k1, -, -⟩ := rt2 h1
  have HB := Lib.hid (And.intro hB hw1)
  have H1 := Lib.hid h1
  clear h h1 hB hw1
  by_cases c1 : d < 1
  · have hr : okR ⟨n, d⟩ = false := by rw [Bool.eq_false_iff]; intro e; have := hiff.1 e; omega
    rw [hr]
    clear hiff hr
    go_enter Tryz.func81, Tryz.ntmps81
    go_upto_region 1 with (fail)
    rw [← HB.out.1, ← HB.out.2]
    go_wp2
    go_ret
    exact ⟨rfl, H1.out.drop⟩
  by_cases c2 : 1048576 < d
  · have hr : okR ⟨n, d⟩ = false := by rw [Bool.eq_false_iff]; intro e; have := hiff.1 e; omega
    rw [hr]
    clear hiff hr
    go_enter Tryz.func81, Tryz.ntmps81
    go_upto_region 1 with (fail)
    rw [← HB.out.1, ← HB.out.2]
    go_wp2
    go_ret
    exact ⟨rfl, H1.out.drop⟩
  by_cases c3 : 1099511627776 < n
  · have hr : okR ⟨n, d⟩ = false := by rw [Bool.eq_false_iff]; intro e; have := hiff.1 e; omega
    rw [hr]
    clear hiff hr
    go_enter Tryz.func81, Tryz.ntmps81
    go_upto_region 1 with (fail)
    rw [← HB.out.1, ← HB.out.2]
    go_wp2
    go_ret
    exact ⟨rfl, H1.out.drop⟩
  by_cases c4 : n < -1099511627776
  · have hr : okR ⟨n, d⟩ = false := by rw [Bool.eq_false_iff]; intro e; have := hiff.1 e; omega
    rw [hr]
    clear hiff hr
    go_enter Tryz.func81, Tryz.ntmps81
    go_upto_region 1 with (fail)
    rw [← HB.out.1, ← HB.out.2]
    go_wp2
    go_ret
    exact ⟨rfl, H1.out.drop⟩
  · obtain ⟨g, hg⟩ : ∃ g : Nat, g = Nat.gcd n.natAbs d.natAbs := ⟨_, rfl⟩
    have HC := Lib.hid (rcommon_spec n d (by omega) (by omega) H1.out)
    rw [← hg] at HC
    have hr : okR ⟨n, d⟩ = decide (g = 1) := by
      rw [Bool.eq_iff_iff, hiff, ← hg, decide_eq_true_eq]
      constructor
      · exact fun e => e.2.2.2.2
      · exact fun e => ⟨by omega, by omega, by omega, by omega, e⟩
    rw [hr]
    clear hiff hr hg
    by_cases hg1 : g = 1
    · subst hg1
      go_enter Tryz.func81, Tryz.ntmps81
      go_upto_region 1 with (fail)
      rw [← HB.out.1, ← HB.out.2]
      go_wp2_with fail
      refine HC.out.mono ?_
      rintro e w2 ⟨rfl, h2⟩
      have H2 := Lib.hid h2
      clear h2 HC k0 k1
      go_wp2
      go_ret
      exact ⟨rfl, H2.out.drop⟩
    · have hgz : ((g : Int) == 1) = false := by simp; omega
      have hd : decide (g = 1) = false := decide_eq_false hg1
      rw [hd]
      clear hg1 hd
      go_enter Tryz.func81, Tryz.ntmps81
      go_upto_region 1 with (fail)
      rw [← HB.out.1, ← HB.out.2]
      go_wp2_with fail
      refine HC.out.mono ?_
      rintro e w2 ⟨rfl, h2⟩
      have H2 := Lib.hid h2
      clear h2 HC k0 k1
      go_wp2
      go_ret
      exact ⟨rfl, H2.out.drop⟩
end Go.Proofs.YtodipneapffjdaaGreatDoor
/- Package ratio: Add, Sub. -/
namespace Go.Proofs.YtodipneapffjdaaGreatDoor
open Go.RowKit PA
theorem mul_i64 {a b : Int} (h1 : -1099511627776 ≤ a) (h2 : a ≤ 1099511627776) (h3 : 0 ≤ b) (h4 : b ≤ 1048576) : -1152921504606846976 ≤ a * b ∧ a * b ≤ 1152921504606846976 := by
  have e1 : a * b ≤ 1099511627776 * b := Int.mul_le_mul_of_nonneg_right h2 h3
  have e2 : -1099511627776 * b ≤ a * b := Int.mul_le_mul_of_nonneg_right h1 h3
  omega
end Go.Proofs.YtodipneapffjdaaGreatDoor
/- The reference's small, Good, apart of intervals. -/
namespace Go.Proofs.YtodipneapffjdaaGreatDoor
open Go.RowKit PA
set_option maxHeartbeats 1000000 in
theorem rless_spec {W w : World} {A : Assn} (a b : Rt) (ha : Rok a) (hb : Rok b) (h : Sat W w A) :
    Calls Tryz.prog 104 #[.agg #[.int .i64 a.n, .int .i64 a.d], .agg #[.int .i64 b.n, .int .i64 b.d]] w fun e w' => e = .returned (.bool (ltR a b)) ∧ Sat W w' A := by
  obtain ⟨an, ad⟩ := a
  obtain ⟨bn, bd⟩ := b
  obtain ⟨p, hp⟩ : ∃ p, p = an * bd := ⟨_, rfl⟩
  obtain ⟨q, hq⟩ : ∃ q, q = bn * ad := ⟨_, rfl⟩
  have m1 := mul_i64 ha.n1 ha.n2 (by have := hb.d1; simp only at *; omega) hb.d2
  have m2 := mul_i64 hb.n1 hb.n2 (by have := ha.d1; simp only at *; omega) ha.d2
  simp only at m1 m2
  rw [← hp] at m1
  rw [← hq] at m2
  have hr : ltR ⟨an, ad⟩ ⟨bn, bd⟩ = decide (p < q) := by unfold ltR; rw [hp, hq]
  have e1 : an * bd = p := hp.symm
  have e2 : bn * ad = q := hq.symm
  obtain ⟨m11, m12⟩ := m1
  obtain ⟨m21, m22⟩ := m2
  rw [hr]
  clear ha hb hp hq hr
  have HS := Lib.hid ((h.alloc0 (.cells #[.int .i64 an, .int .i64 ad] 27)).alloc0 (.cells #[.int .i64 bn, .int .i64 bd] 27))
  clear h
  go_enter Tryz.func104, Tryz.ntmps104
  go_wp2
  go_ret
  exact ⟨rfl, HS.out⟩
set_option maxHeartbeats 1000000 in
theorem rsmall_spec {W w : World} {A : Assn} (n d : Int) (h : Sat W w A) :
    Calls Tryz.prog 137 #[.agg #[.int .i64 n, .int .i64 d]] w fun e w' => e = .returned (.bool (smallR ⟨n, d⟩)) ∧ Sat W w' A := by
  have h1 := h.alloc (.cells #[.int .i64 n, .int .i64 d] 27)
  obtain ⟨B, hB⟩ : ∃ B, B = w.heap.size := ⟨_, rfl⟩
  obtain ⟨w1, hw1⟩ : ∃ z, z = w.alloc (.cells #[.int .i64 n, .int .i64 d] 27) := ⟨_, rfl⟩
  rw [← hB, ← hw1] at h1
  obtain ⟨k0, k1, -, -⟩ := rt2 h1
  have HB := Lib.hid (And.intro hB hw1)
  have HV := Lib.hid (rvalidR_spec n d h1)
  obtain ⟨o, ho⟩ : ∃ o, o = okR ⟨n, d⟩ := ⟨_, rfl⟩
  rw [← ho] at HV
  have hr : smallR ⟨n, d⟩ = (o && (decide (n ≤ 1073741824) && (decide (-1073741824 ≤ n) && decide (d ≤ 32768)))) := by unfold smallR; rw [ho]
  rw [hr]
  clear hr ho h h1 hB hw1
  cases o with
  | false =>
    go_enter Tryz.func137, Tryz.ntmps137
    go_upto_region 1 with (fail)
    rw [← HB.out.1, ← HB.out.2]
    go_wp2_with fail
    refine HV.out.mono ?_
    rintro e w2 ⟨rfl, h2⟩
    have H2 := Lib.hid h2
    clear h2 HV k0 k1
    unfold r01
    go_wp2
    go_ret
    exact ⟨rfl, H2.out.drop⟩
  | true =>
    obtain ⟨v, hv⟩ : ∃ v, v = (true && (decide (n ≤ 1073741824) && (decide (-1073741824 ≤ n) && decide (d ≤ 32768)))) := ⟨_, rfl⟩
    rw [← hv]
    have HVV := Lib.hid hv
    clear hv
    rcases (show 1073741824 < n ∨ n ≤ 1073741824 by omega) with c1 | c1
    ·
      go_enter Tryz.func137, Tryz.ntmps137
      go_upto_region 1 with (fail)
      rw [← HB.out.1, ← HB.out.2]
      go_wp2_with fail
      refine HV.out.mono ?_
      rintro e w2 ⟨rfl, h2⟩
      obtain ⟨k0, k1, -, -⟩ := rt2 h2
      have H2 := Lib.hid h2
      clear h2 HV
      unfold r01
      go_wp2
      go_ret
      exact ⟨by rw [HVV.out, decide_eq_false (by omega)]; rfl, H2.out.drop⟩
    · rcases (show n < -1073741824 ∨ -1073741824 ≤ n by omega) with c2 | c2
      ·
        go_enter Tryz.func137, Tryz.ntmps137
        go_upto_region 1 with (fail)
        rw [← HB.out.1, ← HB.out.2]
        go_wp2_with fail
        refine HV.out.mono ?_
        rintro e w2 ⟨rfl, h2⟩
        obtain ⟨k0, k1, -, -⟩ := rt2 h2
        have H2 := Lib.hid h2
        clear h2 HV
        unfold r01
        go_wp2
        go_ret
        exact ⟨by rw [HVV.out, decide_eq_true c1, decide_eq_false (by omega)]; rfl, H2.out.drop⟩
      ·
        go_enter Tryz.func137, Tryz.ntmps137
        go_upto_region 1 with (fail)
        rw [← HB.out.1, ← HB.out.2]
        go_wp2_with fail
        refine HV.out.mono ?_
        rintro e w2 ⟨rfl, h2⟩
        obtain ⟨k0, k1, -, -⟩ := rt2 h2
        have H2 := Lib.hid h2
        clear h2 HV
        unfold r01
        go_wp2
        go_ret
        exact ⟨by rw [HVV.out, decide_eq_true c1, decide_eq_true c2]; rfl, H2.out.drop⟩
theorem b2_no {a b : Bool} (h : false = ((!false && !a) || (!false && !b))) : a = true ∧ b = true := by cases a <;> cases b <;> simp at h ⊢
def ivC (x : Iv) : Array Value := #[.int .i64 x.ln, .int .i64 x.ld, .int .i64 x.hn, .int .i64 x.hd, .bool x.lo, .bool x.ho, .bool x.li, .bool x.hi]
theorem smallR_ok {r : Rt} (h : smallR r = true) : Rok r := by
  unfold smallR at h
  simp only [Bool.and_eq_true] at h
  exact (okR_spec h.1).1
theorem iv8 {W w : World} {A : Assn} {g : Nat} {a b c d e f p q : Value} {t : TypeId} (h : Sat W w (sep (blk g (.cells #[a, b, c, d, e, f, p, q] t (0, 0))) A)) :
    w.cell? ⟨g, 0, none⟩ = some a ∧ w.cell? ⟨g, 1, none⟩ = some b ∧ w.cell? ⟨g, 2, none⟩ = some c ∧ w.cell? ⟨g, 3, none⟩ = some d ∧ w.cell? ⟨g, 4, none⟩ = some e ∧ w.cell? ⟨g, 5, none⟩ = some f ∧ w.cell? ⟨g, 6, none⟩ = some p ∧ w.cell? ⟨g, 7, none⟩ = some q :=
  ⟨h.cell 0, h.cell 1, h.cell 2, h.cell 3, h.cell 4, h.cell 5, h.cell 6, h.cell 7⟩
set_option maxRecDepth 100000 in
set_option maxHeartbeats 4000000 in
theorem rgood_spec {W w : World} {A : Assn} (x : Iv) (h : Sat W w A) :
    Calls Tryz.prog 128 #[.agg (ivC x)] w fun e w' => e = .returned (.bool (goodI x)) ∧ Sat W w' A := by
  obtain ⟨ln, ld, hn, hd, lo, ho, li, hi⟩ := x
  have h1 := h.alloc (.cells #[.int .i64 ln, .int .i64 ld, .int .i64 hn, .int .i64 hd, .bool lo, .bool ho, .bool li, .bool hi] 102)
  obtain ⟨B, hB⟩ : ∃ B, B = w.heap.size := ⟨_, rfl⟩
  obtain ⟨w1, hw1⟩ : ∃ z, z = w.alloc (.cells #[.int .i64 ln, .int .i64 ld, .int .i64 hn, .int .i64 hd, .bool lo, .bool ho, .bool li, .bool hi] 102) := ⟨_, rfl⟩
  rw [← hB, ← hw1] at h1
  have HB := Lib.hid (And.intro hB hw1)
  have H1 := Lib.hid h1
  obtain ⟨ql, hql⟩ : ∃ q, q = !(ln == 0 && ld == 0) := ⟨_, rfl⟩
  obtain ⟨qh, hqh⟩ : ∃ q, q = !(hn == 0 && hd == 0) := ⟨_, rfl⟩
  obtain ⟨sl, hsl⟩ : ∃ q, q = smallR ⟨ln, ld⟩ := ⟨_, rfl⟩
  obtain ⟨sh, hsh⟩ : ∃ q, q = smallR ⟨hn, hd⟩ := ⟨_, rfl⟩
  obtain ⟨qe, hqe⟩ : ∃ q, q = (ln == hn && ld == hd) := ⟨_, rfl⟩
  obtain ⟨lt, hlt⟩ : ∃ q, q = ltR ⟨ln, ld⟩ ⟨hn, hd⟩ := ⟨_, rfl⟩
  have hr : goodI ⟨ln, ld, hn, hd, lo, ho, li, hi⟩ = if ((li && (ql || lo)) || (hi && (qh || ho))) = true then false
      else if ((!li && !sl) || (!hi && !sh)) = true then false else if (li || hi) = true then true else if qe = true then !lo && !ho else lt := by
    unfold goodI zR eqR Iv.lw Iv.up
    simp only
    rw [← hql, ← hqh, ← hsl, ← hsh, ← hqe, ← hlt]
  have hn1 : ∀ w0, (binOp .neq 27 (.agg #[.int .i64 ln, .int .i64 ld]) (.agg #[.int .i64 0, .int .i64 0])).run Tryz.prog w0 = .ok (.bool ql) w0 := fun w0 => by rw [rt_neq, hql]
  have hn2 : ∀ w0, (binOp .neq 27 (.agg #[.int .i64 hn, .int .i64 hd]) (.agg #[.int .i64 0, .int .i64 0])).run Tryz.prog w0 = .ok (.bool qh) w0 := fun w0 => by rw [rt_neq, hqh]
  have hn3 : ∀ w0, (binOp .eql 27 (.agg #[.int .i64 ln, .int .i64 ld]) (.agg #[.int .i64 hn, .int .i64 hd])).run Tryz.prog w0 = .ok (.bool qe) w0 := fun w0 => by rw [rt_eql, hqe]
  have HS1 : Hid (∀ w' A', Sat W w' A' → Calls Tryz.prog 137 #[.agg #[.int .i64 ln, .int .i64 ld]] w' fun e w'' => e = .returned (.bool sl) ∧ Sat W w'' A') := Lib.hid fun w' A' h' => by rw [hsl]; exact rsmall_spec ln ld h'
  have HS2 : Hid (∀ w' A', Sat W w' A' → Calls Tryz.prog 137 #[.agg #[.int .i64 hn, .int .i64 hd]] w' fun e w'' => e = .returned (.bool sh) ∧ Sat W w'' A') := Lib.hid fun w' A' h' => by rw [hsh]; exact rsmall_spec hn hd h'
  have HLT : Hid (sl = true → sh = true → ∀ w' A', Sat W w' A' → Calls Tryz.prog 104 #[.agg #[.int .i64 ln, .int .i64 ld], .agg #[.int .i64 hn, .int .i64 hd]] w' fun e w'' => e = .returned (.bool lt) ∧ Sat W w'' A') := Lib.hid fun q1 q2 w' A' h' => by
    rw [hlt]; exact rless_spec ⟨ln, ld⟩ ⟨hn, hd⟩ (smallR_ok (by rw [← hsl]; exact q1)) (smallR_ok (by rw [← hsh]; exact q2)) h'
  obtain ⟨gv, hgv⟩ : ∃ v, v = goodI ⟨ln, ld, hn, hd, lo, ho, li, hi⟩ := ⟨_, rfl⟩
  rw [← hgv] at hr ⊢
  have HGV := Lib.hid hr
  clear hr hgv hql hqh hsl hsh hqe hlt h h1 hB hw1
  unfold ivC
  go_enter Tryz.func128, Tryz.ntmps128
  go_upto_region 1 with (fail)
  rw [← HB.out.1, ← HB.out.2]
  go_cut [30] from 5 (fun v wx => v = .bool ((li && (ql || lo)) || (hi && (qh || ho))) ∧ wx = w1)
  case first =>
    as_aux_lemma =>
    obtain ⟨k0, k1, k2, k3, k4, k5, k6, k7⟩ := iv8 H1.out
    cases li with
    | false =>
      cases hi with
      | false =>
        go_wp2
        go_meet
        case rel => exact ⟨rfl, rfl⟩
      | true =>
        cases qh with
        | true =>
          go_wp2
          go_meet
          case rel => exact ⟨rfl, rfl⟩
        | false =>
          cases ho
          all_goals
            go_wp2
            go_meet
            case rel => exact ⟨rfl, rfl⟩
    | true =>
      cases ql with
      | true =>
        go_wp2
        go_meet
        case rel => exact ⟨rfl, rfl⟩
      | false =>
        cases lo with
        | true =>
          go_wp2
          go_meet
          case rel => exact ⟨rfl, rfl⟩
        | false =>
          cases hi with
          | false =>
            go_wp2
            go_meet
            case rel => exact ⟨rfl, rfl⟩
          | true =>
            cases qh with
            | true =>
              go_wp2
              go_meet
              case rel => exact ⟨rfl, rfl⟩
            | false =>
              cases ho
              all_goals
                go_wp2
                go_meet
                case rel => exact ⟨rfl, rfl⟩
  case rest =>
    obtain ⟨rfl, rfl⟩ := hcut
    obtain ⟨b1, hb1⟩ : ∃ b, b = ((li && (ql || lo)) || (hi && (qh || ho))) := ⟨_, rfl⟩
    rw [← hb1] at HGV ⊢
    clear hb1 HB
    cases b1 with
    | true =>
      go_wp2
      go_ret
      exact ⟨by rw [HGV.out]; rfl, H1.out.drop⟩
    | false =>
      obtain ⟨k0, k1, k2, k3, k4, k5, k6, k7⟩ := iv8 H1.out
      go_wp2_with fail
      refine (HS1.out _ _ H1.out).mono ?_
      rintro e w2 ⟨rfl, h2⟩
      clear k0 k1 k2 k3 k4 k5 k6 k7
      obtain ⟨k0, k1, k2, k3, k4, k5, k6, k7⟩ := iv8 h2
      have H2 := Lib.hid h2
      clear h2 H1
      go_wp2_with fail
      refine (HS2.out _ _ H2.out).mono ?_
      rintro e w3 ⟨rfl, h3⟩
      clear k0 k1 k2 k3 k4 k5 k6 k7
      have H3 := Lib.hid h3
      clear h3 H2
      go_upto_region 5 with (fail)
      go_cut [52] from 5 (fun v wx => v = .bool ((!li && !sl) || (!hi && !sh)) ∧ wx = w3)
      case first =>
        as_aux_lemma =>
        obtain ⟨k0, k1, k2, k3, k4, k5, k6, k7⟩ := iv8 H3.out
        cases li with
        | true =>
          cases hi with
          | true =>
            go_wp2
            go_meet
            case rel => exact ⟨rfl, rfl⟩
          | false =>
            cases sh
            all_goals
              go_wp2
              go_meet
              case rel => exact ⟨rfl, rfl⟩
        | false =>
          cases sl with
          | false =>
            go_wp2
            go_meet
            case rel => exact ⟨rfl, rfl⟩
          | true =>
            cases hi with
            | true =>
              go_wp2
              go_meet
              case rel => exact ⟨rfl, rfl⟩
            | false =>
              cases sh
              all_goals
                go_wp2
                go_meet
                case rel => exact ⟨rfl, rfl⟩
      case rest =>
        obtain ⟨rfl, rfl⟩ := hcut
        obtain ⟨b2, hb2⟩ : ∃ b, b = ((!li && !sl) || (!hi && !sh)) := ⟨_, rfl⟩
        rw [← hb2] at HGV ⊢
        have HB2 := Lib.hid hb2
        clear hb2
        cases b2 with
        | true =>
          go_wp2
          go_ret
          exact ⟨by rw [HGV.out]; rfl, H3.out.drop⟩
        | false =>
          obtain ⟨k0, k1, k2, k3, k4, k5, k6, k7⟩ := iv8 H3.out
          cases li with
          | true =>
            go_wp2
            go_ret
            exact ⟨by rw [HGV.out]; rfl, H3.out.drop⟩
          | false =>
            cases hi with
            | true =>
              go_wp2
              go_ret
              exact ⟨by rw [HGV.out]; rfl, H3.out.drop⟩
            | false =>
              have hs : sl = true ∧ sh = true := b2_no HB2.out
              obtain ⟨rfl, rfl⟩ := hs
              cases qe with
              | true =>
                cases lo <;> cases ho
                all_goals
                  go_wp2
                  go_ret
                  exact ⟨by rw [HGV.out]; rfl, H3.out.drop⟩
              | false =>
                go_wp2_with fail
                refine (HLT.out (by first | rfl | trivial) (by first | rfl | trivial) _ _ H3.out).mono ?_
                rintro e w4 ⟨rfl, h4⟩
                have H4 := Lib.hid h4
                clear h4 k0 k1 k2 k3 k4 k5 k6 k7
                go_wp2
                go_ret
                exact ⟨by rw [HGV.out]; rfl, H4.out.drop⟩
set_option maxRecDepth 100000 in
set_option maxHeartbeats 4000000 in
theorem rapart_spec {W w : World} {A : Assn} (x y : Iv) (gx : goodI x = true) (gy : goodI y = true) (h : Sat W w A) :
    Calls Tryz.prog 129 #[.agg (ivC x), .agg (ivC y)] w fun e w' => e = .returned (.bool (apartI x y)) ∧ Sat W w' A := by
  have hx : x.hi = false → smallR x.up = true := fun e => by
    unfold goodI at gx
    split at gx
    · cases gx
    · split at gx
      · cases gx
      · rename_i h2
        rw [e] at h2
        cases hs : smallR x.up
        · rw [hs] at h2; simp at h2
        · rfl
  have hy : y.li = false → smallR y.lw = true := fun e => by
    unfold goodI at gy
    split at gy
    · cases gy
    · split at gy
      · cases gy
      · rename_i h2
        rw [e] at h2
        cases hs : smallR y.lw
        · rw [hs] at h2; simp at h2
        · rfl
  obtain ⟨ln, ld, hn, hd, lo, ho, li, hi⟩ := x
  obtain ⟨ln', ld', hn', hd', lo', ho', li', hi'⟩ := y
  have h1 := (h.alloc (.cells #[.int .i64 ln, .int .i64 ld, .int .i64 hn, .int .i64 hd, .bool lo, .bool ho, .bool li, .bool hi] 102)).alloc (.cells #[.int .i64 ln', .int .i64 ld', .int .i64 hn', .int .i64 hd', .bool lo', .bool ho', .bool li', .bool hi'] 102)
  rw [World.size_alloc] at h1
  obtain ⟨B, hB⟩ : ∃ B, B = w.heap.size := ⟨_, rfl⟩
  obtain ⟨w1, hw1⟩ : ∃ z, z = (w.alloc (.cells #[.int .i64 ln, .int .i64 ld, .int .i64 hn, .int .i64 hd, .bool lo, .bool ho, .bool li, .bool hi] 102)).alloc (.cells #[.int .i64 ln', .int .i64 ld', .int .i64 hn', .int .i64 hd', .bool lo', .bool ho', .bool li', .bool hi'] 102) := ⟨_, rfl⟩
  rw [← hB, ← hw1] at h1
  have HB := Lib.hid (And.intro hB hw1)
  have H1 := Lib.hid h1
  obtain ⟨qe, hqe⟩ : ∃ q, q = (hn == ln' && hd == ld') := ⟨_, rfl⟩
  obtain ⟨lt, hlt⟩ : ∃ q, q = ltR ⟨hn, hd⟩ ⟨ln', ld'⟩ := ⟨_, rfl⟩
  have hr : apartI ⟨ln, ld, hn, hd, lo, ho, li, hi⟩ ⟨ln', ld', hn', hd', lo', ho', li', hi'⟩ = if (hi || li') = true then false else if qe = true then ho && lo' else lt := by
    unfold apartI eqR Iv.lw Iv.up
    simp only
    rw [← hqe, ← hlt]
  have hn3 : ∀ w0, (binOp .eql 27 (.agg #[.int .i64 hn, .int .i64 hd]) (.agg #[.int .i64 ln', .int .i64 ld'])).run Tryz.prog w0 = .ok (.bool qe) w0 := fun w0 => by rw [rt_eql, hqe]
  have HLT : Hid (hi = false → li' = false → ∀ w' A', Sat W w' A' → Calls Tryz.prog 104 #[.agg #[.int .i64 hn, .int .i64 hd], .agg #[.int .i64 ln', .int .i64 ld']] w' fun e w'' => e = .returned (.bool lt) ∧ Sat W w'' A') := Lib.hid fun q1 q2 w' A' h' => by
    rw [hlt]; exact rless_spec ⟨hn, hd⟩ ⟨ln', ld'⟩ (smallR_ok (hx q1)) (smallR_ok (hy q2)) h'
  obtain ⟨gv, hgv⟩ : ∃ v, v = apartI ⟨ln, ld, hn, hd, lo, ho, li, hi⟩ ⟨ln', ld', hn', hd', lo', ho', li', hi'⟩ := ⟨_, rfl⟩
  rw [← hgv] at hr ⊢
  have HGV := Lib.hid hr
  clear hgv
  obtain ⟨k0, k1, k2, k3, k4, k5, k6, k7⟩ := iv8 h1
  obtain ⟨j0, j1, j2, j3, j4, j5, j6, j7⟩ := iv8 h1.p1
  clear hr hqe hlt h h1 hB hw1 hx hy gx gy
  unfold ivC
  cases hi with
  | true =>
    go_enter Tryz.func129, Tryz.ntmps129
    go_upto_region 1 with (fail)
    rw [← HB.out.1, ← HB.out.2]
    go_wp2
    go_ret
    exact ⟨by rw [HGV.out]; rfl, H1.out.drop.drop⟩
  | false =>
    cases li' with
    | true =>
      go_enter Tryz.func129, Tryz.ntmps129
      go_upto_region 1 with (fail)
      rw [← HB.out.1, ← HB.out.2]
      go_wp2
      go_ret
      exact ⟨by rw [HGV.out]; rfl, H1.out.drop.drop⟩
    | false =>
      cases qe with
      | true =>
        cases ho <;> cases lo'
        all_goals
          go_enter Tryz.func129, Tryz.ntmps129
          go_upto_region 1 with (fail)
          rw [← HB.out.1, ← HB.out.2]
          go_wp2
          go_ret
          exact ⟨by rw [HGV.out]; rfl, H1.out.drop.drop⟩
      | false =>
        go_enter Tryz.func129, Tryz.ntmps129
        go_upto_region 1 with (fail)
        rw [← HB.out.1, ← HB.out.2]
        go_wp2_with fail
        refine (HLT.out (by first | rfl | trivial) (by first | rfl | trivial) _ _ H1.out).mono ?_
        rintro e w4 ⟨rfl, h4⟩
        have H4 := Lib.hid h4
        clear h4 k0 k1 k2 k3 k4 k5 k6 k7 j0 j1 j2 j3 j4 j5 j6 j7
        go_wp2
        go_ret
        exact ⟨by rw [HGV.out]; rfl, H4.out.drop.drop⟩
end Go.Proofs.YtodipneapffjdaaGreatDoor
