/- The reference's Ints. -/
import Derived.Test.YtodipneapffjdaaGreatDoorGActsSort4
import Derived.Test.YtodipneapffjdaaGreatDoorGActsSort3
import Derived.Test.YtodipneapffjdaaGreatDoorSl
namespace PA
open Go Go.RowKit
/-- What may be appended (the source is owned). -/
structure SrcOw (w : World) (a : Option Addr) (n : Nat) (vs : List Value) : Prop where
  len : vs.length = n * 1
  nil : a = none → n = 0
  src : ∀ b, a = some b → ∀ j u, vs[j]? = some u → w.cell? (b.add j) = some u
  one : ∀ u ∈ vs, u.oneCell' = true
theorem osl_ow {W w : World} {A : Assn} {E : Nat} {a : Option Addr} {n c : Nat} {bs : List UInt8} (h : Sat W w (sep (osl E 1 a n c (bs.map PA.bv)) A)) : SrcOw w a n (bs.map PA.bv) :=
  ⟨h.osl_len.1, fun e => by have := h.swf_of_osl.2.2 e; have := h.swf_of_osl.1; omega, h.osl_src, PA.bv_one bs⟩
def encIs (l : List Int) : List UInt8 := Lib.uvarint l.length ++ (l.map PA.encI).flatten
def encT (l : List Int) (k : Nat) : List UInt8 := Lib.uvarint l.length ++ ((l.take k).map PA.encI).flatten
theorem encT_succ {l : List Int} {k : Nat} {r : Int} (h : l[k]? = some r) : encT l (k + 1) = encT l k ++ PA.encI r := by
  unfold encT
  rw [List.take_add_one, h]; simp
theorem encT_all (l : List Int) : encT l l.length = encIs l := by unfold encT encIs; rw [List.take_length]
theorem encI_le {r : Int} (h1 : -9223372036854775808 ≤ r) (h2 : r ≤ 9223372036854775807) : (PA.encI r).length ≤ 10 := by
  unfold PA.encI; exact Lib.uvarint_length64 (Lib.zigzag_lt h1 h2)
theorem encT_le {l : List Int} (hn : l.length ≤ 1048576) (hi : ∀ r ∈ l, -9223372036854775808 ≤ r ∧ r ≤ 9223372036854775807) (k : Nat) : (encT l k).length ≤ 10 + 10 * k := by
  induction k with
  | zero => unfold encT; simp; exact Lib.uvarint_length64 (by omega)
  | succ k ih =>
    cases h : l[k]? with
    | none =>
      have e : encT l (k + 1) = encT l k := by unfold encT; rw [List.take_add_one, h]; simp
      rw [e]; omega
    | some r =>
      rw [encT_succ h, List.length_append]
      have := encI_le (hi r (List.mem_iff_getElem?.2 ⟨k, h⟩)).1 (hi r (List.mem_iff_getElem?.2 ⟨k, h⟩)).2
      omega
end PA
namespace Go.Proofs.YtodipneapffjdaaGreatDoor
open Go.RowKit PA
set_option maxHeartbeats 2000000 in
theorem rints_spec {W w : World} {A : Assn} (a : Option Addr) (n c : Nat) (l : List Int) (hn : n = l.length) (hn2 : l.length ≤ 1048576) (hi : ∀ r ∈ l, -9223372036854775808 ≤ r ∧ r ≤ 9223372036854775807)
    (hc : ∀ w' B, Sat W w' (sep B A) → ∀ (k : Nat) r, l[k]? = some r → ∃ b o, a = some ⟨b, o, none⟩ ∧ w'.cell? ⟨b, o + k, none⟩ = some (.int .i64 r)) (h : Sat W w A) :
    Calls Tryz.prog 88 #[.slice a n c] w fun e w' => ∃ a' c', e = .returned (.slice a' (encIs l).length c') ∧ Sat W w' (sep (osl 5 1 a' (encIs l).length c' ((encIs l).map bv)) A) := by
  have HN := Lib.hid (And.intro hn hn2)
  have HI := Lib.hid hi
  have HC := Lib.hid hc
  have hw1 : IntKind.u64.wrap (n : Int) = (n : Nat) := wraps_u64 _ (by omega) (by omega)
  have H := Lib.hid h
  obtain ⟨E, hE⟩ : ∃ E, E = encIs l := ⟨_, rfl⟩
  rw [← hE]
  have HE := Lib.hid hE
  obtain ⟨Po, hPo⟩ : ∃ P : Ending → World → Prop, P = fun e w' => ∃ a' c', e = .returned (.slice a' E.length c') ∧ Sat W w' (sep (osl 5 1 a' E.length c' (E.map bv)) A) := ⟨_, rfl⟩
  rw [← hPo]
  have HPO := Lib.hid hPo
  have n63 : (n : Int) ≤ 9223372036854775807 := by omega
  clear hn hn2 hi hc h hE hPo
  go_enter Tryz.func88, Tryz.ntmps88
  go_wp2_with fail
  refine (ruint_spec n (by have := HN.out; omega) H.out).mono ?_
  rintro e w2 ⟨a1, c1, rfl, h2⟩
  obtain ⟨m, hm⟩ : ∃ m, m = (Lib.uvarint n).length := ⟨_, rfl⟩
  obtain ⟨vs, hvs⟩ : ∃ vs, vs = (Lib.uvarint n).map bv := ⟨_, rfl⟩
  rw [← hm, ← hvs] at h2
  rw [← hm]
  have HM := Lib.hid (And.intro hm hvs)
  have H2 := Lib.hid h2
  clear hm hvs h2 H
  go_wp2_with fail
  go_loopw [3, 4] (fun ov kv wr => ∃ (k : Nat) (a' : Option Addr) (n' c' : Nat) (vs : List Value), ov = .slice a' n' c' ∧ kv = .int .i64 k ∧ k ≤ n ∧ Hid (n' = (encT l k).length ∧ vs = (encT l k).map bv) ∧ Sat W wr (sep (osl 5 1 a' n' c' vs) A)) (fun _ kv _ => n - (intOf kv).toNat)
  case atStart =>
    have e0 : encT l 0 = Lib.uvarint n := by unfold encT; rw [HN.out.1]; simp
    exact ⟨0, a1, m, c1, vs, rfl, rfl, by omega, Lib.hid ⟨by rw [HM.out.1, e0], by rw [HM.out.2, e0]⟩, H2.out⟩
  case round =>
    obtain ⟨k, a', n', c', vs', rfl, rfl, hk, HV, hS⟩ := hrel
    clear H2
    by_cases hlt : k < n
    · have hltz : (k : Int) < (n : Int) := by omega
      obtain ⟨r, hr⟩ : ∃ r, l[k]? = some r := ⟨_, List.getElem?_eq_getElem (by have := HN.out; omega)⟩
      obtain ⟨b, o, rfl, j0⟩ := HC.out _ _ hS k r hr
      have HR := Lib.hid (And.intro hr hlt)
      have HS := Lib.hid hS
      clear hr hlt hS hk
      go_wp2_with fail
      refine (rint_spec r (HI.out r (List.mem_iff_getElem?.2 ⟨k, HR.out.1⟩)).1 (HI.out r (List.mem_iff_getElem?.2 ⟨k, HR.out.1⟩)).2 HS.out).mono ?_
      rintro e w3 ⟨a2, c2, rfl, h3⟩
      have HOK := Lib.hid (osl_ow h3)
      have h4 := h3.drop
      have hb1 : n' ≤ 10 + 10 * k := by rw [HV.out.1]; exact encT_le HN.out.2 HI.out k
      have hb2 : (PA.encI r).length ≤ 10 := encI_le (HI.out r (List.mem_iff_getElem?.2 ⟨k, HR.out.1⟩)).1 (HI.out r (List.mem_iff_getElem?.2 ⟨k, HR.out.1⟩)).2
      have hkb : k ≤ 1048576 := by have := HN.out; have := HR.out.2; omega
      obtain ⟨m2, hm2⟩ : ∃ m, m = (PA.encI r).length := ⟨_, rfl⟩
      obtain ⟨us, hus⟩ : ∃ us, us = (PA.encI r).map bv := ⟨_, rfl⟩
      rw [← hm2, ← hus] at HOK
      rw [← hm2] at hb2 ⊢
      have HB := Lib.hid (And.intro hb1 (And.intro hb2 hkb))
      have HU := Lib.hid (And.intro hm2 hus)
      clear h3 hb1 hb2 hkb hm2 hus j0 HS
      go_wp2_with (at_builtin; (refine wpl_append_osl rfl (.tmp 15) (.tmp 20) 50 rfl 5 1 1 (.int .u8 0) Tryz.underlying50 infoU8w rfl rfl h4 rfl us HOK.out.len HOK.out.nil HOK.out.src HOK.out.one (by have := HB.out; omega) (by have := HB.out; unfold maxLen; omega) ?_))
      intro a4 c4 w5 h5
      have H5 := Lib.hid h5
      clear h4 h5 HOK
      go_wp2_with fail
      go_roundw
      case rel =>
        refine ⟨k + 1, a4, n' + m2, c4, _, rfl, by go_num, by have := HR.out.2; omega, Lib.hid ⟨?_, ?_⟩, H5.out⟩
        · rw [encT_succ HR.out.1, List.length_append, HV.out.1, HU.out.1]
        · rw [encT_succ HR.out.1, List.map_append, HV.out.2, HU.out.2]
      case measure => simp [intOf]; have := HR.out.2; omega
    · obtain rfl : k = n := by omega
      have hE2 : E = encT l k := by rw [HE.out, HN.out.1, encT_all]
      have HF : Hid (n' = E.length ∧ vs' = E.map bv) := Lib.hid (by rw [hE2]; exact HV.out)
      have HS := Lib.hid hS
      clear hS hE2 HV
      go_wp2
      rw [HPO.out]
      exact ⟨a', c', by rw [← HF.out.1]; try rfl, by rw [← HF.out.1, ← HF.out.2]; exact HS.out⟩
end Go.Proofs.YtodipneapffjdaaGreatDoor
/- Rationals of limited size in plain: what package ratio computes. No program in sight. -/
namespace PA
open Go
/-- A ratio. -/
structure Rt where
  n : Int
  d : Int
  deriving DecidableEq
def ratioMaxN : Nat := 1099511627776
def ratioMaxD : Nat := 1048576
/-- What 'build' returns: the ratio and the error. -/
def buildR (neg : Bool) (n d : Nat) : Rt × Int :=
  if ratioMaxN < n / Nat.gcd n d ∨ ratioMaxD < d / Nat.gcd n d then (⟨0, 0⟩, 5)
  else (⟨if neg = true then -((n / Nat.gcd n d : Nat) : Int) else ((n / Nat.gcd n d : Nat) : Int), ((d / Nat.gcd n d : Nat) : Int)⟩, 0)
def newR (num den : Int) : Rt × Int :=
  if den = 0 then (⟨0, 0⟩, 1) else buildR (decide (num < 0) != decide (den < 0)) num.natAbs den.natAbs
def okR (r : Rt) : Bool := decide (1 ≤ r.d) && decide (newR r.n r.d = (r, 0))
theorem buildR_ok {neg : Bool} {n d : Nat} {r : Rt} (h : buildR neg n d = (r, 0)) : r.n.natAbs = n / Nat.gcd n d ∧ r.d = ((d / Nat.gcd n d : Nat) : Int) ∧ n / Nat.gcd n d ≤ ratioMaxN ∧ d / Nat.gcd n d ≤ ratioMaxD := by
  unfold buildR at h
  split at h
  · cases h
  · rename_i h'
    have h1 : n / Nat.gcd n d ≤ ratioMaxN := by
      rcases Nat.lt_or_ge ratioMaxN (n / Nat.gcd n d) with h2 | h2
      · exact absurd (.inl h2) h'
      · exact h2
    have h2 : d / Nat.gcd n d ≤ ratioMaxD := by
      rcases Nat.lt_or_ge ratioMaxD (d / Nat.gcd n d) with h2 | h2
      · exact absurd (.inr h2) h'
      · exact h2
    obtain ⟨rfl⟩ := (Prod.mk.inj h).1
    refine ⟨?_, rfl, h1, h2⟩
    show Int.natAbs (if neg = true then -((n / Nat.gcd n d : Nat) : Int) else ((n / Nat.gcd n d : Nat) : Int)) = _
    by_cases e : neg = true
    · rw [if_pos e, Int.natAbs_neg, Int.natAbs_natCast]
    · rw [if_neg e, Int.natAbs_natCast]
structure Rok (r : Rt) : Prop where
  d1 : 1 ≤ r.d
  d2 : r.d ≤ 1048576
  n1 : -1099511627776 ≤ r.n
  n2 : r.n ≤ 1099511627776
theorem newR_ok {n d : Int} {r : Rt} (h : newR n d = (r, 0)) (hd : 0 < d) : Rok r ∧ (r.n = 0 ↔ n = 0) ∧ (0 < r.n ↔ 0 < n) := by
  unfold newR at h
  rw [if_neg (by omega)] at h
  have h0 := h
  obtain ⟨h1, h2, h3, h4⟩ := buildR_ok h
  unfold ratioMaxN at h3
  unfold ratioMaxD at h4
  have hg : 0 < Nat.gcd n.natAbs d.natAbs := Nat.gcd_pos_of_pos_right _ (by omega)
  have hdv : 0 < d.natAbs / Nat.gcd n.natAbs d.natAbs := Nat.div_pos (Nat.le_of_dvd (by omega) (Nat.gcd_dvd_right _ _)) hg
  have hz : n.natAbs / Nat.gcd n.natAbs d.natAbs = 0 ↔ n.natAbs = 0 := by
    constructor
    · intro e
      rcases (Nat.div_eq_zero_iff).1 e with e | e
      · omega
      · rcases Nat.eq_zero_or_pos n.natAbs with h | h
        · exact h
        · have := Nat.le_of_dvd h (Nat.gcd_dvd_left n.natAbs d.natAbs); omega
    · intro e; rw [e]; simp
  refine ⟨⟨by omega, by omega, by omega, by omega⟩, by omega, ?_⟩
  unfold buildR at h0
  split at h0
  · cases h0
  · have e := (Prod.mk.inj h0).1
    have hd' : decide (d < 0) = false := decide_eq_false (by omega)
    rw [hd'] at e
    subst e
    by_cases hn : n < 0
    · simp only [hn, decide_true]
      simp
      omega
    · simp only [hn, decide_false]
      simp
      constructor
      · intro h
        have : n.natAbs ≠ 0 := fun e => by rw [e] at h; simp at h
        omega
      · intro h
        have := hz
        omega
theorem okR_spec {r : Rt} (h : okR r = true) : Rok r ∧ newR r.n r.d = (r, 0) := by
  simp only [okR, Bool.and_eq_true, decide_eq_true_eq] at h
  exact ⟨(newR_ok h.2 (by omega)).1, h.2⟩
theorem newR_den (n d : Int) (hd : 0 < d) (hdn : okR ⟨n, d⟩ = true) : Nat.gcd n.natAbs d.natAbs = 1 := by
  have h := (okR_spec hdn).2
  unfold newR at h
  rw [if_neg (by show ¬ d = 0; omega)] at h
  obtain ⟨-, h2, -, -⟩ := buildR_ok h
  have h2' : d = ((d.natAbs / Nat.gcd n.natAbs d.natAbs : Nat) : Int) := h2
  rcases Nat.lt_or_ge 1 (Nat.gcd n.natAbs d.natAbs) with h3 | h3
  · have := Nat.div_lt_self (n := d.natAbs) (by omega) h3
    omega
  · have : 0 < Nat.gcd n.natAbs d.natAbs := Nat.gcd_pos_of_pos_right _ (by omega)
    omega
theorem okR_mk (n d : Int) (h1 : 1 ≤ d) (h2 : d ≤ 1048576) (h3 : n.natAbs ≤ 1099511627776) (h4 : Nat.gcd n.natAbs d.natAbs = 1) : okR ⟨n, d⟩ = true := by
  simp only [okR, Bool.and_eq_true, decide_eq_true_eq]
  refine ⟨h1, ?_⟩
  unfold newR buildR
  rw [if_neg (by omega), h4, Nat.div_one, Nat.div_one, if_neg]
  · have hdd : decide (d < 0) = false := decide_eq_false (by omega)
    rw [hdd]
    refine congrArg (·, (0 : Int)) ?_
    by_cases hn : n < 0
    · simp only [hn, decide_true]
      simp
      exact ⟨by omega, by omega⟩
    · simp only [hn, decide_false]
      simp
      exact ⟨by omega, by omega⟩
  · unfold ratioMaxN ratioMaxD
    omega
end PA
/- Acts in plain: their numbers, and what else they carry, as cells. No program in sight. -/
namespace PA
open Go Go.RowKit
/-- A slice's value. -/
structure Sv where
  a : Option Addr
  n : Nat
  c : Nat
def Sv.v (s : Sv) : Value := .slice s.a s.n s.c
def Sv.none : Sv := ⟨.none, 0, 0⟩
/-- An act: kind, day, known, file, office, party, other, number, amount, share; what it describes, its text's claims, claims, earlier ones; its facts. -/
structure Ac where
  k : Int
  d : Int
  n : Int
  f : Int
  o : Int
  p : Int
  q : Int
  u : Int
  m : Int
  sn : Int
  sd : Int
  td : Sv
  tc : Sv
  cl : Sv
  ea : Sv
  fo : Int
  fn : Int
  fi : Sv
  fk : Sv
def Ac.cells (x : Ac) : List Value := [.int .i64 x.k, .int .i64 x.d, .int .i64 x.n, .int .i64 x.f, .int .i64 x.o, .int .i64 x.p, .int .i64 x.q, .int .i64 x.u, .int .i64 x.m, .int .i64 x.sn, .int .i64 x.sd,
  .slice x.td.a x.td.n x.td.c, .slice x.tc.a x.tc.n x.tc.c, .slice x.cl.a x.cl.n x.cl.c, .slice x.ea.a x.ea.n x.ea.c, .int .i64 x.fo, .int .i64 x.fn, .slice x.fi.a x.fi.n x.fi.c, .slice x.fk.a x.fk.n x.fk.c]
theorem Ac.len (x : Ac) : x.cells.length = 19 := rfl
theorem Ac.one (x : Ac) : ∀ u ∈ x.cells, u.oneCell' = true := by
  intro u hu
  simp only [Ac.cells, List.mem_cons, List.not_mem_nil, or_false] at hu
  rcases hu with rfl | rfl | rfl | rfl | rfl | rfl | rfl | rfl | rfl | rfl | rfl | rfl | rfl | rfl | rfl | rfl | rfl | rfl | rfl <;> rfl
def Ac.sh (x : Ac) : Rt := ⟨x.sn, x.sd⟩
/-- An act without anything. -/
def Ac.zero : Ac := ⟨0, 0, 0, 0, 0, 0, 0, 0, 0, 0, 0, Sv.none, Sv.none, Sv.none, Sv.none, 0, 0, Sv.none, Sv.none⟩
/-- Acts as a row of cells. -/
def acs (xs : List Ac) : List Value := xs.flatMap Ac.cells
theorem acs_len (xs : List Ac) : (acs xs).length = xs.length * 19 := by
  induction xs with
  | nil => rfl
  | cons x xs ih => rw [acs, List.flatMap_cons, List.length_append, ← acs, ih, Ac.len, List.length_cons]; omega
theorem acs_append (xs ys : List Ac) : acs (xs ++ ys) = acs xs ++ acs ys := by simp [acs]
theorem acs_one (xs : List Ac) : ∀ u ∈ acs xs, u.oneCell' = true := by
  intro u hu
  obtain ⟨x, _, hx⟩ := List.mem_flatMap.1 hu
  exact x.one u hx
theorem acs_at (xs : List Ac) (i : Nat) (hi : i < xs.length) (j : Nat) (hj : j < 19) : (acs xs)[i * 19 + j]? = xs[i].cells[j]? := by
  have e : xs = xs.take i ++ xs[i] :: xs.drop (i + 1) := by rw [← List.drop_eq_getElem_cons hi, List.take_append_drop]
  have hl : (acs (xs.take i)).length = i * 19 := by rw [acs_len, List.length_take, Nat.min_eq_left (by omega)]
  conv => lhs; rw [e]
  rw [acs_append, List.getElem?_append_right (by omega), hl, Nat.add_sub_cancel_left]
  show (List.flatMap Ac.cells (xs[i] :: xs.drop (i + 1)))[j]? = _
  rw [List.flatMap_cons, List.getElem?_append_left (by rw [Ac.len]; exact hj)]
/-- The order by day and tick. -/
def cmpK (x y : Ac) : Int := if x.d < y.d then -1 else if y.d < x.d then 1 else if x.n < y.n then -1 else if y.n < x.n then 1 else 0
def KeyNe (x y : Ac) : Prop := x.d ≠ y.d ∨ x.n ≠ y.n
theorem KeyNe.symm {x y : Ac} (h : KeyNe x y) : KeyNe y x := h.imp Ne.symm Ne.symm
theorem cmpK_flip (x y : Ac) : cmpK y x = -cmpK x y := by
  unfold cmpK
  repeat' split
  all_goals first | rfl | omega
theorem cmpK_trans {x y z : Ac} (h1 : cmpK x y ≤ 0) (h2 : cmpK y z ≤ 0) : cmpK x z ≤ 0 := by
  unfold cmpK at *
  repeat' split
  all_goals first | omega | skip
  all_goals (repeat' split at h1) <;> (repeat' split at h2) <;> omega
/-- Acts in order. -/
def Asc (c : Ac → Ac → Int) (l : List Ac) : Prop := l.Pairwise fun x y => c x y ≤ 0
/-- Two lists in order, of the same acts, no two of which are alike: they are the same. -/
theorem asc_unique {c : Ac → Ac → Int} (hne : ∀ x y, c x y ≤ 0 → c y x ≤ 0 → KeyNe x y → False) : ∀ (l m : List Ac), Asc c l → Asc c m → l.Perm m → l.Pairwise KeyNe → l = m
  | [], m, _, _, hp, _ => (List.Perm.nil_eq hp)
  | x :: l, [], _, _, hp, _ => absurd hp.length_eq (by simp)
  | x :: l, y :: m, h1, h2, hp, hk => by
    have a1 := List.pairwise_cons.1 h1
    have a2 := List.pairwise_cons.1 h2
    have k1 := List.pairwise_cons.1 hk
    have hxy : x = y := by
      have hx : x ∈ y :: m := hp.subset (by simp)
      have hy : y ∈ x :: l := hp.symm.subset (by simp)
      rcases List.mem_cons.1 hx with e | hx
      · exact e
      · rcases List.mem_cons.1 hy with e | hy
        · exact e.symm
        · exact False.elim (hne x y (a1.1 y hy) (a2.1 x hx) (k1.1 y hy))
    subst hxy
    rw [asc_unique hne l m a1.2 a2.2 ((List.perm_cons x).1 hp) k1.2]
theorem cmpK_ne (x y : Ac) (h1 : cmpK x y ≤ 0) (h2 : cmpK y x ≤ 0) (h : KeyNe x y) : False := by
  unfold cmpK at h1 h2
  unfold KeyNe at h
  repeat' split at h1
  all_goals (repeat' split at h2)
  all_goals omega
end PA
/- Formulas of features in plain: trees; sizes, depths, whether they are as they should be; what both sides write of them. No program in sight. -/
namespace PA
open Go
structure Iv where
  ln : Int
  ld : Int
  hn : Int
  hd : Int
  lo : Bool
  ho : Bool
  li : Bool
  hi : Bool
  deriving DecidableEq
inductive Fm where
  | mk (op n : Int) (ins : List Iv) (kids : List Fm)
namespace Fm
def op : Fm → Int | mk o _ _ _ => o
def num : Fm → Int | mk _ n _ _ => n
def ins : Fm → List Iv | mk _ _ i _ => i
def kids : Fm → List Fm | mk _ _ _ k => k
theorem ind {P : Fm → Prop} (h : ∀ o n i k, (∀ f ∈ k, P f) → P (mk o n i k)) : ∀ f, P f
  | mk o n i k => h o n i k fun f _ => ind h f
mutual
def size : Fm → Nat
  | mk _ _ _ k => sizes k + 1
def sizes : List Fm → Nat
  | [] => 0
  | f :: l => size f + sizes l
end
mutual
def deep : Fm → Nat
  | mk _ _ _ k => deeps k + 1
def deeps : List Fm → Nat
  | [] => 0
  | f :: l => max (deep f) (deeps l)
end
mutual
/-- The nodes, each before its kids. -/
def nodes : Fm → List Fm
  | mk o n i k => mk o n i k :: nodess k
def nodess : List Fm → List Fm
  | [] => []
  | f :: l => nodes f ++ nodess l
end
/-- Whether a node is as it should be, apart from its kids; sp: its intervals are. -/
def formed (sp : List Iv → Bool) : Fm → Bool
  | mk o n i k =>
    if (o ≠ 2 ∧ i ≠ []) ∨ (o ≠ 2 ∧ o ≠ 1 ∧ n ≠ 0) then false
    else if o = 0 then k.isEmpty
    else if o = 1 then k.isEmpty && decide (0 ≤ n) && decide (n < 64)
    else if o = 2 then k.isEmpty && decide (0 ≤ n) && decide (n < 32) && sp i
    else if o = 3 ∨ o = 6 then decide (k.length = 1)
    else decide (o = 4) || decide (o = 5)
mutual
def whole (sp : List Iv → Bool) : Fm → Bool
  | mk o n i k => formed sp (mk o n i k) && wholes sp k
def wholes (sp : List Iv → Bool) : List Fm → Bool
  | [] => true
  | f :: l => whole sp f && wholes sp l
end
mutual
theorem whole_nodes (sp : List Iv → Bool) : ∀ f, whole sp f = (nodes f).all (formed sp)
  | mk o n i k => by rw [whole, nodes, List.all_cons, wholes_nodes sp k]
theorem wholes_nodes (sp : List Iv → Bool) : ∀ l, wholes sp l = (nodess l).all (formed sp)
  | [] => rfl
  | f :: l => by rw [wholes, nodess, List.all_append, whole_nodes sp f, wholes_nodes sp l]
end
mutual
theorem size_nodes : ∀ f, (nodes f).length = size f
  | mk o n i k => by rw [nodes, List.length_cons, sizes_nodes k, size]
theorem sizes_nodes : ∀ l, (nodess l).length = sizes l
  | [] => rfl
  | f :: l => by rw [nodess, List.length_append, size_nodes f, sizes_nodes l, sizes]
end
def boolI (b : Bool) : Int := if b = true then 1 else 0
/-- A list of numbers with its length. -/
def encIs (l : List Int) : List UInt8 := Lib.uvarint l.length ++ l.flatMap encI
def ivInts (x : Iv) : List Int := [x.ln, x.ld, x.hn, x.hd, boolI x.lo, boolI x.ho, boolI x.li, boolI x.hi]
def nodeE : Fm → List UInt8
  | mk o n i k => encI o ++ (encI n ++ (encI (i.length : Int) ++ (i.flatMap (fun x => encIs (ivInts x)) ++ encI (k.length : Int))))
/-- The bytes of a formula. -/
def enc (f : Fm) : List UInt8 := (nodes f).flatMap nodeE
def valid (sp : List Iv → Bool) (f : Fm) : Int := if 96 < size f ∨ 8 < deep f then 4 else if whole sp f = true then 0 else 1
end Fm
end PA
/- Formulas in memory: what cells read as a formula. No program in sight. -/
namespace PA
open Go Go.RowKit
def rIv : Rep Iv := ⟨fun _ cs x => cs = [.int .i64 x.ln, .int .i64 x.ld, .int .i64 x.hn, .int .i64 x.hd, .bool x.lo, .bool x.ho, .bool x.li, .bool x.hi], fun _ h => h⟩
mutual
def relF (I : Mem) : Fm → List Value → Prop
  | .mk o n i k, cs => ∃ (a : Option Addr) (c : Nat) (b : Option Addr) (d : Nat), cs = [.int .i64 o, .int .i64 n, .slice a i.length c, .slice b k.length d] ∧ (rIv.slice 8).rel I [.slice a i.length c] i ∧ Swf b k.length d ∧ ∃ css, cellsAt b css.flatten I ∧ relFs I k css
def relFs (I : Mem) : List Fm → List (List Value) → Prop
  | [], css => css = []
  | f :: l, css => ∃ c t, css = c :: t ∧ (relF I f c ∧ c.length = 4) ∧ relFs I l t
end
mutual
theorem relF_mono {I J : Mem} (hl : Mem.le I J) : ∀ (f : Fm) (cs : List Value), relF I f cs → relF J f cs
  | .mk _ _ _ k, _, ⟨a, c, b, d, e, hi, hw, css, hc, hk⟩ => ⟨a, c, b, d, e, (rIv.slice 8).mono hl hi, hw, css, cellsAt_mono hl hc, relFs_mono hl k css hk⟩
theorem relFs_mono {I J : Mem} (hl : Mem.le I J) : ∀ (l : List Fm) (css : List (List Value)), relFs I l css → relFs J l css
  | [], _, h => h
  | f :: l, _, ⟨c, t, e, h1, h2⟩ => ⟨c, t, e, ⟨relF_mono hl f c h1.1, h1.2⟩, relFs_mono hl l t h2⟩
end
def rF : Rep Fm := ⟨fun I cs f => relF I f cs, fun hl h => relF_mono hl _ _ h⟩
theorem relFs_all {I : Mem} : ∀ {l : List Fm} {css : List (List Value)}, relFs I l css ↔ All2 (fun c x => rF.rel I c x ∧ c.length = 4) css l
  | [], [] => ⟨fun _ => trivial, fun _ => rfl⟩
  | [], _ :: _ => ⟨fun h => (by cases h), fun h => False.elim h⟩
  | f :: l, [] => ⟨fun ⟨_, _, h, _⟩ => (by cases h), fun h => False.elim h⟩
  | f :: l, c :: t => by
    constructor
    · rintro ⟨c', t', e, h1, h2⟩
      cases e
      exact ⟨h1, relFs_all.1 h2⟩
    · rintro ⟨h1, h2⟩
      exact ⟨c, t, rfl, h1, relFs_all.2 h2⟩
/-- A formula's cells: its numbers, its intervals, its kids. -/
theorem rF_iff {I : Mem} {cs : List Value} {o n : Int} {i : List Iv} {k : List Fm} : rF.rel I cs (.mk o n i k) ↔ ∃ (a : Option Addr) (c : Nat) (b : Option Addr) (d : Nat), cs = [.int .i64 o, .int .i64 n, .slice a i.length c, .slice b k.length d] ∧ (rIv.slice 8).rel I [.slice a i.length c] i ∧ (rF.slice 4).rel I [.slice b k.length d] k := by
  constructor
  · rintro ⟨a, c, b, d, e, hi, hw, css, hc, hk⟩
    exact ⟨a, c, b, d, e, hi, b, d, css.flatten, rfl, hw, hc, css, rfl, relFs_all.1 hk⟩
  · rintro ⟨a, c, b, d, e, hi, b', d', cells, e2, hw, hc, css, rfl, hk⟩
    cases e2
    exact ⟨a, c, b, d, e, hi, hw, css, hc, relFs_all.2 hk⟩
end PA
