/- Package ratio: Add, Sub. -/
import Derived.Test.YtfapiopnjllnnaaGreatDoorGTitleApart5
import Derived.Test.YtfapiopnjllnnaaGreatDoorSl
import Derived.Test.YtfapiopnjllnnaaGreatDoorGTitleApart4
namespace Go.Proofs.YtfapiopnjllnnaaGreatDoor
open Go.RowKit PA
theorem mul_i64 {a b : Int} (h1 : -1099511627776 ≤ a) (h2 : a ≤ 1099511627776) (h3 : 0 ≤ b) (h4 : b ≤ 1048576) : -1152921504606846976 ≤ a * b ∧ a * b ≤ 1152921504606846976 := by
  have e1 : a * b ≤ 1099511627776 * b := Int.mul_le_mul_of_nonneg_right h2 h3
  have e2 : -1099511627776 * b ≤ a * b := Int.mul_le_mul_of_nonneg_right h1 h3
  omega
set_option maxHeartbeats 1000000 in
theorem add_spec {W w : World} {A : Assn} (a b : Rt) (ha : RtB a) (hb : RtB b) (h : Sat W w A) :
    Calls Tryz.prog 24 #[.agg #[.int .i64 a.n, .int .i64 a.d], .agg #[.int .i64 b.n, .int .i64 b.d]] w fun e w' => e = .returned (rtRes (addR a b)) ∧ Sat W w' A := by
  obtain ⟨rs, hrs⟩ : ∃ rs, rs = addR a b := ⟨_, rfl⟩
  rw [← hrs]
  have HRS := Lib.hid hrs
  have h1 := ((h.alloc (.cells #[.int .i64 a.n, .int .i64 a.d] 44)).alloc (.cells #[.int .i64 b.n, .int .i64 b.d] 44)).alloc (.cells #[.int .i64 0, .int .i64 0] 44)
  obtain ⟨B, hB⟩ : ∃ B, B = w.heap.size := ⟨_, rfl⟩
  simp only [World.size_alloc, ← hB] at h1
  obtain ⟨w1, hw1⟩ : ∃ w1, w1 = ((w.alloc (.cells #[.int .i64 a.n, .int .i64 a.d] 44)).alloc (.cells #[.int .i64 b.n, .int .i64 b.d] 44)).alloc (.cells #[.int .i64 0, .int .i64 0] 44) := ⟨_, rfl⟩
  rw [← hw1] at h1
  have HV := fun w0 (A0 : Assn) C (h0 : Sat W w0 (sep (blk C (.cells #[.int .i64 a.n, .int .i64 a.d, .int .i64 b.n, .int .i64 b.d] 44 (0, 0))) A0)) => valids_spec a b ha hb C h0
  obtain ⟨ok, hok⟩ : ∃ ok : Bool, ok = decide (okR a = true ∧ okR b = true) := ⟨_, rfl⟩
  have hif : (if okR a = true ∧ okR b = true then (0 : Int) else 1) = if ok = true then 0 else 1 := by
    rw [hok]
    by_cases hh : okR a = true ∧ okR b = true
    · rw [if_pos hh, decide_eq_true hh, if_pos rfl]
    · rw [if_neg hh, decide_eq_false hh, if_neg (by simp)]
  rw [hif] at HV
  have HB := Lib.hid hB
  have HW1 := Lib.hid hw1
  have HHV := Lib.hid HV
  have HOK := Lib.hid hok
  have HBA := Lib.hid ha
  have HBB := Lib.hid hb
  obtain ⟨an, ad⟩ := a
  obtain ⟨bn, bd⟩ := b
  clear hrs hB hw1 HV hif hok h ha hb
  go_enter Tryz.func24, Tryz.ntmps24
  go_upto_region 1 with (fail)
  simp only [World.size_alloc, ← HB.out, ← HW1.out]
  obtain ⟨k0, k1, -, -⟩ := rt2 h1.p1
  obtain ⟨j0, j1, -, -⟩ := rt2 h1.p2
  have h2 := h1.alloc (.cells #[.int .i64 an, .int .i64 ad, .int .i64 bn, .int .i64 bd] 44)
  go_wp2_with fail
  refine (HHV.out _ _ _ h2).mono ?_
  rintro e w3 ⟨rfl, h3⟩
  clear h2 h1 k0 k1 j0 j1 HHV
  cases ok with
  | false =>
    obtain ⟨k0, k1, k2, k3⟩ := rt2 h3
    have h4 := rt2_set h3 (.int .i64 0) (.int .i64 0)
    obtain ⟨w4, hw4⟩ : ∃ w4, w4 = (w3.setCell ⟨B + 1 + 1, 0, none⟩ (.int .i64 0)).setCell ⟨B + 1 + 1, 1, none⟩ (.int .i64 0) := ⟨_, rfl⟩
    rw [← hw4] at h4
    obtain ⟨d0, d1, -, -⟩ := rt2 h4
    have HW4 := Lib.hid hw4
    clear hw4
    go_wp2
    rw [← HW4.out]
    exact bodyPost_ret (v := .tuple #[.agg #[.int .i64 0, .int .i64 0], .int .i64 1]) (by simp [results, Tryz.results24, go_sem, d0, d1]) rfl ⟨by rw [HRS.out]; unfold addR; rw [if_neg (of_decide_eq_false HOK.out.symm)]; rfl, h4.forget.forget.forget⟩
  | true =>
    have hoo := of_decide_eq_true HOK.out.symm
    have r1 := (okR_spec hoo.1).1
    have r2 := (okR_spec hoo.2).1
    obtain ⟨a1, a2, a3, a4⟩ := r1
    obtain ⟨b1, b2, b3, b4⟩ := r2
    simp only at a1 a2 a3 a4 b1 b2 b3 b4
    have m1 := mul_i64 a3 a4 (show 0 ≤ bd by omega) b2
    have m2 := mul_i64 b3 b4 (show 0 ≤ ad by omega) a2
    have m3 := mul_i64 (show -1099511627776 ≤ ad by omega) (show ad ≤ 1099511627776 by omega) (show 0 ≤ bd by omega) b2
    have heq : newR (an * bd + bn * ad) (ad * bd) = rs := by rw [HRS.out]; unfold addR; rw [if_pos hoo]
    obtain ⟨x, hx⟩ : ∃ x, x = an * bd := ⟨_, rfl⟩
    obtain ⟨y, hy⟩ : ∃ y, y = bn * ad := ⟨_, rfl⟩
    obtain ⟨z, hz⟩ : ∃ z, z = ad * bd := ⟨_, rfl⟩
    rw [← hx] at m1
    rw [← hy] at m2
    rw [← hz] at m3
    rw [← hx, ← hy, ← hz] at heq
    have e1 : IntKind.i64.wrap (an * bd) = x := by rw [← hx]; exact IntWalk.i64_in _ (by omega)
    have e2 : IntKind.i64.wrap (bn * ad) = y := by rw [← hy]; exact IntWalk.i64_in _ (by omega)
    have e3 : IntKind.i64.wrap (ad * bd) = z := by rw [← hz]; exact IntWalk.i64_in _ (by omega)
    have e4 : IntKind.i64.wrap (x + y) = x + y := IntWalk.i64_in _ (by omega)
    have hnew := fun w0 (A0 : Assn) (h0 : Sat W w0 A0) => new_spec (x + y) z (by omega) (by omega) (by omega) (by omega) h0
    rw [heq] at hnew
    have HNEW := Lib.hid hnew
    obtain ⟨k0, k1, -, -⟩ := rt2 h3.p1
    obtain ⟨j0, j1, -, -⟩ := rt2 h3.p2
    clear hnew heq hx hy hz m1 m2 m3 hoo a1 a2 a3 a4 b1 b2 b3 b4 HRS HOK HBA HBB
    go_wp2_with fail
    refine (HNEW.out _ _ h3).mono ?_
    rintro e w4 ⟨rfl, h4⟩
    clear e1 e2 e3 e4 k0 k1 j0 j1 h3 HNEW
    obtain ⟨⟨rn, rd⟩, re⟩ := rs
    simp only [rtRes]
    obtain ⟨k0, k1, k2, k3⟩ := rt2 h4
    have h5 := rt2_set h4 (.int .i64 rn) (.int .i64 rd)
    obtain ⟨w5, hw5⟩ : ∃ w5, w5 = (w4.setCell ⟨B + 1 + 1, 0, none⟩ (.int .i64 rn)).setCell ⟨B + 1 + 1, 1, none⟩ (.int .i64 rd) := ⟨_, rfl⟩
    rw [← hw5] at h5
    obtain ⟨d0, d1, -, -⟩ := rt2 h5
    have HW5 := Lib.hid hw5
    clear hw5
    go_wp2
    rw [← HW5.out]
    exact bodyPost_ret (v := .tuple #[.agg #[.int .i64 rn, .int .i64 rd], .int .i64 re]) (by simp [results, Tryz.results24, go_sem, d0, d1]) rfl ⟨rfl, h5.forget.forget.forget⟩
set_option maxHeartbeats 1000000 in
theorem sub_spec {W w : World} {A : Assn} (a b : Rt) (ha : RtB a) (hb : RtB b) (hb2 : RtB (negR b)) (h : Sat W w A) :
    Calls Tryz.prog 23 #[.agg #[.int .i64 a.n, .int .i64 a.d], .agg #[.int .i64 b.n, .int .i64 b.d]] w fun e w' => e = .returned (rtRes (subR a b)) ∧ Sat W w' A := by
  obtain ⟨rs, hrs⟩ : ∃ rs, rs = subR a b := ⟨_, rfl⟩
  rw [← hrs]
  have hadd := fun w0 (A0 : Assn) (h0 : Sat W w0 A0) => add_spec a (negR b) ha hb2 h0
  rw [show addR a (negR b) = rs from hrs.symm] at hadd
  have HADD := Lib.hid hadd
  have h1 := ((h.alloc (.cells #[.int .i64 a.n, .int .i64 a.d] 44)).alloc (.cells #[.int .i64 b.n, .int .i64 b.d] 44)).alloc (.cells #[.int .i64 0, .int .i64 0] 44)
  obtain ⟨B, hB⟩ : ∃ B, B = w.heap.size := ⟨_, rfl⟩
  simp only [World.size_alloc, ← hB] at h1
  obtain ⟨w1, hw1⟩ : ∃ w1, w1 = ((w.alloc (.cells #[.int .i64 a.n, .int .i64 a.d] 44)).alloc (.cells #[.int .i64 b.n, .int .i64 b.d] 44)).alloc (.cells #[.int .i64 0, .int .i64 0] 44) := ⟨_, rfl⟩
  rw [← hw1] at h1
  have HB := Lib.hid hB
  have HW1 := Lib.hid hw1
  have en : IntKind.i64.wrap (-b.n) = -b.n := IntWalk.i64_in _ ⟨hb2.n1, hb2.n2⟩
  obtain ⟨an, ad⟩ := a
  obtain ⟨bn, bd⟩ := b
  simp only at en
  have hs := ((h1.p1.setCell 0 (.int .i64 (-bn))))
  obtain ⟨w2, hw2⟩ : ∃ w2, w2 = w1.setCell ⟨B + 1, 0, none⟩ (.int .i64 (-bn)) := ⟨_, rfl⟩
  rw [← hw2] at hs
  have HW2 := Lib.hid hw2
  obtain ⟨k0, k1, k2, k3⟩ := rt2 h1.p1
  clear hrs hB hw1 h ha hb hb2 hadd hw2
  go_enter Tryz.func23, Tryz.ntmps23
  go_upto_region 1 with (fail)
  simp only [World.size_alloc, ← HB.out, ← HW1.out]
  go_upto_region 2 with (fail)
  clear k0 k1 k2 k3 en
  rw [← HW2.out]
  obtain ⟨k0, k1, -, -⟩ := rt2 hs
  obtain ⟨j0, j1, -, -⟩ := rt2 hs.p2
  go_wp2_with fail
  refine (HADD.out _ _ hs).mono ?_
  rintro e w4 ⟨rfl, h4⟩
  clear k0 k1 j0 j1 hs h1 HADD
  obtain ⟨⟨rn, rd⟩, re⟩ := rs
  simp only [rtRes]
  obtain ⟨k0, k1, k2, k3⟩ := rt2 h4.p1
  have h5 := rt2_set h4.p1 (.int .i64 rn) (.int .i64 rd)
  obtain ⟨w5, hw5⟩ : ∃ w5, w5 = (w4.setCell ⟨B + 1 + 1, 0, none⟩ (.int .i64 rn)).setCell ⟨B + 1 + 1, 1, none⟩ (.int .i64 rd) := ⟨_, rfl⟩
  rw [← hw5] at h5
  obtain ⟨d0, d1, -, -⟩ := rt2 h5
  have HW5 := Lib.hid hw5
  clear hw5
  go_wp2
  rw [← HW5.out]
  exact bodyPost_ret (v := .tuple #[.agg #[.int .i64 rn, .int .i64 rd], .int .i64 re]) (by simp [results, Tryz.results23, go_sem, d0, d1]) rfl ⟨rfl, h5.forget.forget.forget⟩
end Go.Proofs.YtfapiopnjllnnaaGreatDoor
/- Acts in plain: their numbers, and what else they carry, as cells. No program in sight. -/
namespace PA
open Go Go.RowKit
/-- A slice's value. -/
structure Sv where
  a : Option Addr
  n : Nat
  c : Nat
def Sv.v (s : Sv) : Value := .slice s.a s.n s.c
def Sv.none : Sv := ⟨.none, 0, 0⟩
/-- An act: kind, day, known, file, office, party, other, number, amount, share; what it describes, its text's claims, claims, earlier ones; its facts. -/
structure Ac where
  k : Int
  d : Int
  n : Int
  f : Int
  o : Int
  p : Int
  q : Int
  u : Int
  m : Int
  sn : Int
  sd : Int
  td : Sv
  tc : Sv
  cl : Sv
  ea : Sv
  fo : Int
  fn : Int
  fi : Sv
  fk : Sv
def Ac.cells (x : Ac) : List Value := [.int .i64 x.k, .int .i64 x.d, .int .i64 x.n, .int .i64 x.f, .int .i64 x.o, .int .i64 x.p, .int .i64 x.q, .int .i64 x.u, .int .i64 x.m, .int .i64 x.sn, .int .i64 x.sd,
  .slice x.td.a x.td.n x.td.c, .slice x.tc.a x.tc.n x.tc.c, .slice x.cl.a x.cl.n x.cl.c, .slice x.ea.a x.ea.n x.ea.c, .int .i64 x.fo, .int .i64 x.fn, .slice x.fi.a x.fi.n x.fi.c, .slice x.fk.a x.fk.n x.fk.c]
theorem Ac.len (x : Ac) : x.cells.length = 19 := rfl
theorem Ac.one (x : Ac) : ∀ u ∈ x.cells, u.oneCell' = true := by
  intro u hu
  simp only [Ac.cells, List.mem_cons, List.not_mem_nil, or_false] at hu
  rcases hu with rfl | rfl | rfl | rfl | rfl | rfl | rfl | rfl | rfl | rfl | rfl | rfl | rfl | rfl | rfl | rfl | rfl | rfl | rfl <;> rfl
def Ac.sh (x : Ac) : Rt := ⟨x.sn, x.sd⟩
/-- An act without anything. -/
def Ac.zero : Ac := ⟨0, 0, 0, 0, 0, 0, 0, 0, 0, 0, 0, Sv.none, Sv.none, Sv.none, Sv.none, 0, 0, Sv.none, Sv.none⟩
/-- Acts as a row of cells. -/
def acs (xs : List Ac) : List Value := xs.flatMap Ac.cells
theorem acs_len (xs : List Ac) : (acs xs).length = xs.length * 19 := by
  induction xs with
  | nil => rfl
  | cons x xs ih => rw [acs, List.flatMap_cons, List.length_append, ← acs, ih, Ac.len, List.length_cons]; omega
theorem acs_append (xs ys : List Ac) : acs (xs ++ ys) = acs xs ++ acs ys := by simp [acs]
theorem acs_one (xs : List Ac) : ∀ u ∈ acs xs, u.oneCell' = true := by
  intro u hu
  obtain ⟨x, _, hx⟩ := List.mem_flatMap.1 hu
  exact x.one u hx
theorem acs_at (xs : List Ac) (i : Nat) (hi : i < xs.length) (j : Nat) (hj : j < 19) : (acs xs)[i * 19 + j]? = xs[i].cells[j]? := by
  have e : xs = xs.take i ++ xs[i] :: xs.drop (i + 1) := by rw [← List.drop_eq_getElem_cons hi, List.take_append_drop]
  have hl : (acs (xs.take i)).length = i * 19 := by rw [acs_len, List.length_take, Nat.min_eq_left (by omega)]
  conv => lhs; rw [e]
  rw [acs_append, List.getElem?_append_right (by omega), hl, Nat.add_sub_cancel_left]
  show (List.flatMap Ac.cells (xs[i] :: xs.drop (i + 1)))[j]? = _
  rw [List.flatMap_cons, List.getElem?_append_left (by rw [Ac.len]; exact hj)]
/-- The order by day and tick. -/
def cmpK (x y : Ac) : Int := if x.d < y.d then -1 else if y.d < x.d then 1 else if x.n < y.n then -1 else if y.n < x.n then 1 else 0
def KeyNe (x y : Ac) : Prop := x.d ≠ y.d ∨ x.n ≠ y.n
theorem KeyNe.symm {x y : Ac} (h : KeyNe x y) : KeyNe y x := h.imp Ne.symm Ne.symm
theorem cmpK_flip (x y : Ac) : cmpK y x = -cmpK x y := by
  unfold cmpK
  repeat' split
  all_goals first | rfl | omega
theorem cmpK_trans {x y z : Ac} (h1 : cmpK x y ≤ 0) (h2 : cmpK y z ≤ 0) : cmpK x z ≤ 0 := by
  unfold cmpK at *
  repeat' split
  all_goals first | omega | skip
  all_goals (repeat' split at h1) <;> (repeat' split at h2) <;> omega
/-- Acts in order. -/
def Asc (c : Ac → Ac → Int) (l : List Ac) : Prop := l.Pairwise fun x y => c x y ≤ 0
/-- Two lists in order, of the same acts, no two of which are alike: they are the same. -/
theorem asc_unique {c : Ac → Ac → Int} (hne : ∀ x y, c x y ≤ 0 → c y x ≤ 0 → KeyNe x y → False) : ∀ (l m : List Ac), Asc c l → Asc c m → l.Perm m → l.Pairwise KeyNe → l = m
  | [], m, _, _, hp, _ => (List.Perm.nil_eq hp)
  | x :: l, [], _, _, hp, _ => absurd hp.length_eq (by simp)
  | x :: l, y :: m, h1, h2, hp, hk => by
    have a1 := List.pairwise_cons.1 h1
    have a2 := List.pairwise_cons.1 h2
    have k1 := List.pairwise_cons.1 hk
    have hxy : x = y := by
      have hx : x ∈ y :: m := hp.subset (by simp)
      have hy : y ∈ x :: l := hp.symm.subset (by simp)
      rcases List.mem_cons.1 hx with e | hx
      · exact e
      · rcases List.mem_cons.1 hy with e | hy
        · exact e.symm
        · exact False.elim (hne x y (a1.1 y hy) (a2.1 x hx) (k1.1 y hy))
    subst hxy
    rw [asc_unique hne l m a1.2 a2.2 ((List.perm_cons x).1 hp) k1.2]
theorem cmpK_ne (x y : Ac) (h1 : cmpK x y ≤ 0) (h2 : cmpK y x ≤ 0) (h : KeyNe x y) : False := by
  unfold cmpK at h1 h2
  unfold KeyNe at h
  repeat' split at h1
  all_goals (repeat' split at h2)
  all_goals omega
theorem pairwise_perm {R : Ac → Ac → Prop} (hs : ∀ x y, R x y → R y x) {l m : List Ac} (h : l.Perm m) (hl : l.Pairwise R) : m.Pairwise R := (List.Perm.pairwise_iff (fun h => hs _ _ h) h).1 hl
end PA
/- Package title in plain: shares, transfers, the walk through sorted acts. No program in sight. -/
namespace PA
open Go
abbrev Shs := Int → Option Rt
def shareP (S : Shs) (p : Int) : Rt := (S p).getD ⟨0, 1⟩
def setSh (S : Shs) (p : Int) (r : Rt) : Shs := fun x => if x = p then some r else S x
def moveP (S : Shs) (x : Ac) : Shs × Bool :=
  if (subR (shareP S x.p) x.sh).2 ≠ 0 ∨ (subR (shareP S x.p) x.sh).1.n < 0 then (S, false)
  else if (addR (shareP S x.q) x.sh).2 ≠ 0 then (S, false)
  else (setSh (setSh S x.p (subR (shareP S x.p) x.sh).1) x.q (addR (shareP S x.q) x.sh).1, true)
def ofFileB (k : Int) : Bool := !(decide (k = 5) || decide (k = 19) || decide (k = 20) || decide (k = 21))
def countsB (file fday day : Int) (x : Ac) : Bool := ofFileB x.k && (decide (x.f = file) && (decide (fday ≤ x.d) && (decide (x.d ≤ day) && (decide (x.k = 16) || decide (x.k = 17)))))
def stepT (S : Shs) (x : Ac) : Shs × Bool := if x.k = 16 then moveP S x else (S, decide (0 < (shareP S x.p).n))
/-- The walk: ev is told each act that counts, with its index and whether it has effect. -/
def walkT {σ : Type} (file fday day : Int) (ev : σ → Nat → Ac → Bool → σ) : Nat → List Ac → Shs → σ → Shs × σ
  | _, [], S, s => (S, s)
  | i, x :: l, S, s => if countsB file fday day x = true then walkT file fday day ev (i + 1) l (stepT S x).1 (ev s i x (stepT S x).2) else walkT file fday day ev (i + 1) l S s
def isFiling (file : Int) (x : Ac) : Bool := decide (x.k = 0) && decide (x.f = file)
def filedT (file : Int) (S : List Ac) : Option Ac := S.find? (isFiling file)
/-- The error of a file, a day and sorted acts. -/
def titleErr (file day : Int) (S : List Ac) : Int :=
  if file < 0 ∨ 4095 < file ∨ day < 0 ∨ 131072 < day then 5 else match filedT file S with
  | none => 7
  | some f => if day < f.d then 7 else 0
def first1 (p : Int) : Shs := setSh (fun _ => none) p ⟨1, 1⟩
/-- All shares are in lowest terms, and not below 0. -/
def ShOk (S : Shs) : Prop := ∀ p r, S p = some r → okR r = true ∧ 0 ≤ r.n
theorem okR_one : okR ⟨1, 1⟩ = true := by decide
theorem okR_zero : okR ⟨0, 1⟩ = true := by decide
theorem ShOk.first (p : Int) : ShOk (first1 p) := by
  intro q r h
  unfold first1 setSh at h
  split at h
  · cases h; exact ⟨okR_one, by decide⟩
  · cases h
theorem ShOk.share {S : Shs} (h : ShOk S) (p : Int) : okR (shareP S p) = true ∧ 0 ≤ (shareP S p).n := by
  unfold shareP
  cases e : S p with
  | none => exact ⟨okR_zero, by decide⟩
  | some r => exact h p r e
theorem okR_nil {r : Rt} (h : okR r = true) (h0 : r.n = 0) : r = ⟨0, 1⟩ := by
  have h1 := (okR_spec h).1
  cases r with
  | mk n d =>
    simp only at h0
    subst h0
    have hg := newR_den 0 d (by have := h1.d1; simp at this; omega) h
    simp at hg
    have := h1.d1
    simp at this
    have : d = 1 := by omega
    rw [this]
theorem moveP_ok {S : Shs} (h : ShOk S) (x : Ac) (hx : 0 ≤ x.sn) : ShOk (moveP S x).1 := by
  unfold moveP
  split
  · exact h
  · rename_i h1
    split
    · exact h
    · rename_i h2
      have a1 : (subR (shareP S x.p) x.sh).2 = 0 := by
        rcases Int.lt_trichotomy (subR (shareP S x.p) x.sh).2 0 with e | e | e
        · exact absurd (.inl (by omega)) h1
        · exact e
        · exact absurd (.inl (by omega)) h1
      have a2 : 0 ≤ (subR (shareP S x.p) x.sh).1.n := by
        rcases Int.lt_or_le (subR (shareP S x.p) x.sh).1.n 0 with e | e
        · exact absurd (.inr e) h1
        · exact e
      have a3 : (addR (shareP S x.q) x.sh).2 = 0 := by
        rcases Int.lt_trichotomy (addR (shareP S x.q) x.sh).2 0 with e | e | e
        · exact absurd (by omega) h2
        · exact e
        · exact absurd (by omega) h2
      intro p r hr
      replace hr : (if p = x.q then some (addR (shareP S x.q) x.sh).1 else if p = x.p then some (subR (shareP S x.p) x.sh).1 else S p) = some r := hr
      split at hr
      · cases hr
        have e : addR (shareP S x.q) x.sh = ((addR (shareP S x.q) x.sh).1, 0) := Prod.ext rfl a3
        have hv := addR_valid e
        refine ⟨hv.1, ?_⟩
        have hq := h.share x.q
        obtain ⟨r0, hr0⟩ : ∃ r0, r0 = (addR (shareP S x.q) x.sh).1 := ⟨_, rfl⟩
        rw [← hr0] at e ⊢
        have e2 : newR ((shareP S x.q).n * x.sh.d + x.sh.n * (shareP S x.q).d) ((shareP S x.q).d * x.sh.d) = (r0, 0) := by
          rw [← e]; unfold addR; rw [if_pos ⟨hv.2.1, hv.2.2⟩]
        have d1 := (okR_spec hv.2.1).1.d1
        have d2 := (okR_spec hv.2.2).1.d1
        have hn := (newR_ok e2 (Int.mul_pos (by omega) (by omega)))
        have hnum : 0 ≤ (shareP S x.q).n * x.sh.d + x.sh.n * (shareP S x.q).d := Int.add_nonneg (Int.mul_nonneg hq.2 (by omega)) (Int.mul_nonneg hx (by omega))
        rcases Int.lt_trichotomy ((shareP S x.q).n * x.sh.d + x.sh.n * (shareP S x.q).d) 0 with z | z | z
        · omega
        · have := hn.2.1.2 z; omega
        · have := hn.2.2.2 z; omega
      · split at hr
        · cases hr
          have e : subR (shareP S x.p) x.sh = ((subR (shareP S x.p) x.sh).1, 0) := Prod.ext rfl a1
          exact ⟨(addR_valid e).1, a2⟩
        · exact h p r hr
theorem stepT_ok {S : Shs} (h : ShOk S) (x : Ac) (hx : 0 ≤ x.sn) : ShOk (stepT S x).1 := by
  unfold stepT
  split
  · exact moveP_ok h x hx
  · exact h
theorem walkT_ok {σ : Type} (file fday day : Int) (ev : σ → Nat → Ac → Bool → σ) : ∀ (l : List Ac) (i : Nat) (S : Shs) (s : σ), ShOk S → (∀ x ∈ l, 0 ≤ x.sn) → ShOk (walkT file fday day ev i l S s).1
  | [], _, _, _, h, _ => h
  | x :: l, i, S, s, h, hl => by
    unfold walkT
    split
    · exact walkT_ok file fday day ev l _ _ _ (stepT_ok h x (hl x (by simp))) fun y hy => hl y (by simp [hy])
    · exact walkT_ok file fday day ev l _ _ _ h fun y hy => hl y (by simp [hy])
/-- The shares do not depend on what is told. -/
theorem walkT_fst {σ τ : Type} (file fday day : Int) (ev : σ → Nat → Ac → Bool → σ) (ev' : τ → Nat → Ac → Bool → τ) : ∀ (l : List Ac) (i j : Nat) (S : Shs) (s : σ) (t : τ), (walkT file fday day ev i l S s).1 = (walkT file fday day ev' j l S t).1
  | [], _, _, _, _, _ => rfl
  | x :: l, i, j, S, s, t => by
    unfold walkT
    split
    · exact walkT_fst file fday day ev ev' l _ _ _ _ _
    · exact walkT_fst file fday day ev ev' l _ _ _ _ _
theorem walkT_append {σ : Type} (file fday day : Int) (ev : σ → Nat → Ac → Bool → σ) : ∀ (l m : List Ac) (i : Nat) (S : Shs) (s : σ), walkT file fday day ev i (l ++ m) S s = walkT file fday day ev (i + l.length) m (walkT file fday day ev i l S s).1 (walkT file fday day ev i l S s).2
  | [], _, _, _, _ => rfl
  | x :: l, m, i, S, s => by
    rw [List.cons_append, walkT]
    conv => rhs; rw [walkT]
    rw [List.length_cons, show i + (l.length + 1) = (i + 1) + l.length by omega]
    split
    · exact walkT_append file fday day ev l m _ _ _
    · exact walkT_append file fday day ev l m _ _ _
end PA
