/- Acts in plain: their numbers, and what else they carry, as cells. No program in sight. -/
import Derived.Test.YtfapiopnjllnnaaGreatDoorSl
import Derived.Test.YtfapiopnjllnnaaGreatDoorTr
namespace PA
open Go Go.RowKit
/-- A slice's value. -/
structure Sv where
  a : Option Addr
  n : Nat
  c : Nat
def Sv.v (s : Sv) : Value := .slice s.a s.n s.c
def Sv.none : Sv := ⟨.none, 0, 0⟩
/-- An act: kind, day, known, file, office, party, other, number, amount, share; what it describes, its text's claims, claims, earlier ones; its facts. -/
structure Ac where
  k : Int
  d : Int
  n : Int
  f : Int
  o : Int
  p : Int
  q : Int
  u : Int
  m : Int
  sn : Int
  sd : Int
  td : Sv
  tc : Sv
  cl : Sv
  ea : Sv
  fo : Int
  fn : Int
  fi : Sv
  fk : Sv
def Ac.cells (x : Ac) : List Value := [.int .i64 x.k, .int .i64 x.d, .int .i64 x.n, .int .i64 x.f, .int .i64 x.o, .int .i64 x.p, .int .i64 x.q, .int .i64 x.u, .int .i64 x.m, .int .i64 x.sn, .int .i64 x.sd,
  .slice x.td.a x.td.n x.td.c, .slice x.tc.a x.tc.n x.tc.c, .slice x.cl.a x.cl.n x.cl.c, .slice x.ea.a x.ea.n x.ea.c, .int .i64 x.fo, .int .i64 x.fn, .slice x.fi.a x.fi.n x.fi.c, .slice x.fk.a x.fk.n x.fk.c]
theorem Ac.len (x : Ac) : x.cells.length = 19 := rfl
theorem Ac.one (x : Ac) : ∀ u ∈ x.cells, u.oneCell' = true := by
  intro u hu
  simp only [Ac.cells, List.mem_cons, List.not_mem_nil, or_false] at hu
  rcases hu with rfl | rfl | rfl | rfl | rfl | rfl | rfl | rfl | rfl | rfl | rfl | rfl | rfl | rfl | rfl | rfl | rfl | rfl | rfl <;> rfl
def Ac.sh (x : Ac) : Rt := ⟨x.sn, x.sd⟩
/-- An act without anything. -/
def Ac.zero : Ac := ⟨0, 0, 0, 0, 0, 0, 0, 0, 0, 0, 0, Sv.none, Sv.none, Sv.none, Sv.none, 0, 0, Sv.none, Sv.none⟩
/-- Acts as a row of cells. -/
def acs (xs : List Ac) : List Value := xs.flatMap Ac.cells
theorem acs_len (xs : List Ac) : (acs xs).length = xs.length * 19 := by
  induction xs with
  | nil => rfl
  | cons x xs ih => rw [acs, List.flatMap_cons, List.length_append, ← acs, ih, Ac.len, List.length_cons]; omega
theorem acs_append (xs ys : List Ac) : acs (xs ++ ys) = acs xs ++ acs ys := by simp [acs]
theorem acs_one (xs : List Ac) : ∀ u ∈ acs xs, u.oneCell' = true := by
  intro u hu
  obtain ⟨x, _, hx⟩ := List.mem_flatMap.1 hu
  exact x.one u hx
theorem acs_at (xs : List Ac) (i : Nat) (hi : i < xs.length) (j : Nat) (hj : j < 19) : (acs xs)[i * 19 + j]? = xs[i].cells[j]? := by
  have e : xs = xs.take i ++ xs[i] :: xs.drop (i + 1) := by rw [← List.drop_eq_getElem_cons hi, List.take_append_drop]
  have hl : (acs (xs.take i)).length = i * 19 := by rw [acs_len, List.length_take, Nat.min_eq_left (by omega)]
  conv => lhs; rw [e]
  rw [acs_append, List.getElem?_append_right (by omega), hl, Nat.add_sub_cancel_left]
  show (List.flatMap Ac.cells (xs[i] :: xs.drop (i + 1)))[j]? = _
  rw [List.flatMap_cons, List.getElem?_append_left (by rw [Ac.len]; exact hj)]
/-- The order by day and tick. -/
def cmpK (x y : Ac) : Int := if x.d < y.d then -1 else if y.d < x.d then 1 else if x.n < y.n then -1 else if y.n < x.n then 1 else 0
def KeyNe (x y : Ac) : Prop := x.d ≠ y.d ∨ x.n ≠ y.n
theorem KeyNe.symm {x y : Ac} (h : KeyNe x y) : KeyNe y x := h.imp Ne.symm Ne.symm
theorem cmpK_flip (x y : Ac) : cmpK y x = -cmpK x y := by
  unfold cmpK
  repeat' split
  all_goals first | rfl | omega
theorem cmpK_trans {x y z : Ac} (h1 : cmpK x y ≤ 0) (h2 : cmpK y z ≤ 0) : cmpK x z ≤ 0 := by
  unfold cmpK at *
  repeat' split
  all_goals first | omega | skip
  all_goals (repeat' split at h1) <;> (repeat' split at h2) <;> omega
/-- Acts in order. -/
def Asc (c : Ac → Ac → Int) (l : List Ac) : Prop := l.Pairwise fun x y => c x y ≤ 0
/-- Two lists in order, of the same acts, no two of which are alike: they are the same. -/
theorem asc_unique {c : Ac → Ac → Int} (hne : ∀ x y, c x y ≤ 0 → c y x ≤ 0 → KeyNe x y → False) : ∀ (l m : List Ac), Asc c l → Asc c m → l.Perm m → l.Pairwise KeyNe → l = m
  | [], m, _, _, hp, _ => (List.Perm.nil_eq hp)
  | x :: l, [], _, _, hp, _ => absurd hp.length_eq (by simp)
  | x :: l, y :: m, h1, h2, hp, hk => by
    have a1 := List.pairwise_cons.1 h1
    have a2 := List.pairwise_cons.1 h2
    have k1 := List.pairwise_cons.1 hk
    have hxy : x = y := by
      have hx : x ∈ y :: m := hp.subset (by simp)
      have hy : y ∈ x :: l := hp.symm.subset (by simp)
      rcases List.mem_cons.1 hx with e | hx
      · exact e
      · rcases List.mem_cons.1 hy with e | hy
        · exact e.symm
        · exact False.elim (hne x y (a1.1 y hy) (a2.1 x hx) (k1.1 y hy))
    subst hxy
    rw [asc_unique hne l m a1.2 a2.2 ((List.perm_cons x).1 hp) k1.2]
theorem cmpK_ne (x y : Ac) (h1 : cmpK x y ≤ 0) (h2 : cmpK y x ≤ 0) (h : KeyNe x y) : False := by
  unfold cmpK at h1 h2
  unfold KeyNe at h
  repeat' split at h1
  all_goals (repeat' split at h2)
  all_goals omega
theorem pairwise_perm {R : Ac → Ac → Prop} (hs : ∀ x y, R x y → R y x) {l m : List Ac} (h : l.Perm m) (hl : l.Pairwise R) : m.Pairwise R := (List.Perm.pairwise_iff (fun h => hs _ _ h) h).1 hl
end PA
