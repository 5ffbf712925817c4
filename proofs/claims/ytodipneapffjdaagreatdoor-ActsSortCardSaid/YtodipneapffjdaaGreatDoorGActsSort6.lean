/- Acts whole, in plain: formulas, claims, earlier ones; what the generator of chapter 18 may make. No program in sight. -/
import Derived.Test.YtodipneapffjdaaGreatDoorGActsSort5
import Derived.Test.YtodipneapffjdaaGreatDoorGActsSort3
import Derived.Test.YtodipneapffjdaaGreatDoorReg
import Derived.Test.YtodipneapffjdaaGreatDoorProg
import Derived.Deep.DeepCutAuto
import Derived.Test.YtodipneapffjdaaGreatDoorRows
import Derived.Laws.StructEq
namespace PA
open Go Go.RowKit
structure Cl where
  refs : List Int
  body : Fm
structure Ea where
  file : Int
  day : Int
/-- An act whole. -/
structure Pa where
  k : Int
  d : Int
  n : Int
  f : Int
  o : Int
  p : Int
  q : Int
  u : Int
  m : Int
  sn : Int
  sd : Int
  td : List Fm
  tc : List Cl
  cl : List Cl
  ea : List Ea
  fx : Fm
def Fm.zero : Fm := .mk 0 0 [] []
def Pa.zero : Pa := ⟨0, 0, 0, 0, 0, 0, 0, 0, 0, 0, 0, [], [], [], [], Fm.zero⟩
def rEa : Rep Ea := ⟨fun _ cs x => cs = [.int .i64 x.file, .int .i64 x.day], fun _ h => h⟩
def rCl : Rep Cl := ⟨fun I cs x => ∃ (a : Option Addr) (c : Nat) (b : List Value), cs = .slice a x.refs.length c :: b ∧ (rInt.slice 1).rel I [.slice a x.refs.length c] x.refs ∧ rF.rel I b x.body,
  fun hl ⟨a, c, b, e, h1, h2⟩ => ⟨a, c, b, e, (rInt.slice 1).mono hl h1, rF.mono hl h2⟩⟩
/-- An act's cells read as an act. -/
structure IsA (I : Mem) (z : Ac) (x : Pa) : Prop where
  k : z.k = x.k
  d : z.d = x.d
  n : z.n = x.n
  f : z.f = x.f
  o : z.o = x.o
  p : z.p = x.p
  q : z.q = x.q
  u : z.u = x.u
  m : z.m = x.m
  sn : z.sn = x.sn
  sd : z.sd = x.sd
  td : (rF.slice 4).rel I [z.td.v] x.td
  tc : (rCl.slice 5).rel I [z.tc.v] x.tc
  cl : (rCl.slice 5).rel I [z.cl.v] x.cl
  ea : (rEa.slice 2).rel I [z.ea.v] x.ea
  fx : rF.rel I [.int .i64 z.fo, .int .i64 z.fn, z.fi.v, z.fk.v] x.fx
theorem IsA.mono {I J : Mem} {z : Ac} {x : Pa} (hl : Mem.le I J) (h : IsA I z x) : IsA J z x :=
  ⟨h.k, h.d, h.n, h.f, h.o, h.p, h.q, h.u, h.m, h.sn, h.sd, (rF.slice 4).mono hl h.td, (rCl.slice 5).mono hl h.tc, (rCl.slice 5).mono hl h.cl, (rEa.slice 2).mono hl h.ea, rF.mono hl h.fx⟩
theorem slice_nil {α : Type} (R : Rep α) (k : Nat) (I : Mem) : (R.slice k).rel I [.slice none 0 0] [] :=
  ⟨none, 0, [], rfl, ⟨Nat.le_refl _, Nat.zero_le _, fun _ => rfl⟩, .inl rfl, [], rfl, trivial⟩
theorem rF_zero (I : Mem) : rF.rel I [.int .i64 0, .int .i64 0, .slice none 0 0, .slice none 0 0] Fm.zero :=
  rF_iff.2 ⟨none, 0, none, 0, rfl, slice_nil _ _ _, slice_nil _ _ _⟩
theorem IsA.zero (I : Mem) : IsA I Ac.zero Pa.zero :=
  ⟨rfl, rfl, rfl, rfl, rfl, rfl, rfl, rfl, rfl, rfl, rfl, slice_nil _ _ _, slice_nil _ _ _, slice_nil _ _ _, slice_nil _ _ _, rF_zero I⟩
/-! ### what the generator may make -/
def GoodIv (x : Iv) : Prop := 0 ≤ x.ln ∧ x.ln ≤ 4 ∧ x.ld = 1 ∧ x.li = false ∧ ((x.hi = true ∧ x.hn = 0 ∧ x.hd = 0 ∧ x.ho = false) ∨ (x.hi = false ∧ x.hd = 1 ∧ x.ln < x.hn ∧ x.hn ≤ 8))
def LeafC (f : Fm) : Prop := ∃ n : Int, 0 ≤ n ∧ n < 6 ∧ f = .mk 1 n [] []
def LeafV (f : Fm) : Prop := ∃ (n : Int) (x : Iv), 0 ≤ n ∧ n < 2 ∧ GoodIv x ∧ f = .mk 2 n [x] []
inductive GoodF : Fm → Prop
  | c {f} : LeafC f → GoodF f
  | v {f} : LeafV f → GoodF f
  | andCV {f g} : LeafC f → LeafV g → GoodF (.mk 4 0 [] [f, g])
  | orCV {f g} : LeafC f → LeafV g → GoodF (.mk 5 0 [] [f, g])
  | orCC {f g} : LeafC f → LeafC g → GoodF (.mk 5 0 [] [f, g])
  | andN {f g} : LeafC f → LeafC g → GoodF (.mk 4 0 [] [f, .mk 6 0 [] [g]])
  | part {f} : LeafC f → GoodF (.mk 3 0 [] [f])
  | andP {f g} : LeafC f → LeafV g → GoodF (.mk 4 0 [] [f, .mk 3 0 [] [g]])
def GoodRefs (i : Nat) (r : List Int) : Prop := r = [] ∨ (∃ j : Nat, j < i ∧ r = [(j : Int)]) ∨ (i = 2 ∧ r = [0, 1])
def GoodCs (l : List Cl) : Prop := 1 ≤ l.length ∧ l.length ≤ 3 ∧ ∀ (i : Nat) (h : i < l.length), GoodF l[i].body ∧ GoodRefs i l[i].refs
def GoodT (td : List Fm) (tc : List Cl) : Prop := 1 ≤ td.length ∧ td.length ≤ 2 ∧ (∀ f ∈ td, GoodF f) ∧ GoodCs tc
/-- A file below the file with number 5 N. -/
def FileB (N : Nat) (z : Int) : Prop := ∃ j : Nat, j < N ∧ z = 5 * (j : Int)
def GoodEa (N : Nat) (l : List Ea) : Prop := l.length ≤ 2 ∧ (∀ e ∈ l, FileB N e.file ∧ 35600 ≤ e.day ∧ e.day ≤ 38001) ∧ l.Pairwise fun a b => a.file ≠ b.file
/-- A filing that the generator made when there were N before it, without its day. -/
def Filing (N : Nat) (y : Pa) : Prop :=
  ∃ (o p q : Int) (td : List Fm) (tc : List Cl) (ea : List Ea), y = { Pa.zero with f := 5 * (N : Int), o := o, p := p, q := q, td := td, tc := tc, ea := ea } ∧
    (o = 0 ∨ o = 1) ∧ (p = 1 ∨ p = 2) ∧ (q = -1 ∨ FileB N q) ∧ GoodT td tc ∧ GoodEa N ea
def GoodSh (n d : Int) : Prop := (n = 1 ∧ d = 1) ∨ (n = 1 ∧ d = 2) ∨ (n = 1 ∧ d = 3) ∨ (n = 2 ∧ d = 3)
/-- An act of another kind that the generator made when there were N filings, without its day. -/
inductive Other (N : Nat) : Pa → Prop
  | plain {k f : Int} : (k = 1 ∨ k = 2 ∨ k = 10 ∨ k = 11) → FileB N f → Other N { Pa.zero with k := k, f := f }
  | list {k f : Int} {cl : List Cl} : (k = 3 ∨ k = 15) → FileB N f → GoodCs cl → Other N { Pa.zero with k := k, f := f, cl := cl }
  | pay {f p q u m : Int} : FileB N f → (p = 1 ∨ p = 2) → (q = 0 ∨ q = 1) → ((0 ≤ u ∧ u ≤ 5) ∨ (9 ≤ u ∧ u ≤ 11)) → 1 ≤ m → m ≤ 1000 → Other N { Pa.zero with k := 4, f := f, p := p, q := q, u := u, m := m }
  | small {p u : Int} : (p = 1 ∨ p = 2) → (u = 0 ∨ u = 1) → Other N { Pa.zero with k := 5, p := p, u := u }
  | order {k f u : Int} : (k = 6 ∨ k = 7 ∨ k = 18 ∨ k = 9) → FileB N f → 0 ≤ u → u < 60 → (k ≠ 9 → u ≤ 2) → Other N { Pa.zero with k := k, f := f, u := u }
  | extend {f u m : Int} : FileB N f → 0 ≤ u → u ≤ 2 → 1 ≤ m → m ≤ 4 → Other N { Pa.zero with k := 8, f := f, u := u, m := m }
  | oppose {k f p : Int} : (k = 12 ∨ k = 14) → FileB N f → 1 ≤ p → p ≤ 4 → Other N { Pa.zero with k := k, f := f, p := p }
  | decide {f q u : Int} {cl : List Cl} : FileB N f → (q = 0 ∨ q = 1) → ((u = 0 ∨ u = 1) ∧ cl = [] ∨ u = 2 ∧ GoodCs cl) → Other N { Pa.zero with k := 13, f := f, q := q, u := u, cl := cl }
  | transfer {f p q sn sd : Int} : FileB N f → 1 ≤ p → p ≤ 3 → p < q → q ≤ p + 2 → GoodSh sn sd → Other N { Pa.zero with k := 16, f := f, p := p, q := q, sn := sn, sd := sd }
  | licence {f p q u : Int} : FileB N f → 1 ≤ p → p ≤ 3 → p < q → q ≤ p + 2 → 0 ≤ u → u < 2000 → Other N { Pa.zero with k := 17, f := f, p := p, q := q, u := u }
  | art {g : Fm} : GoodF g → Other N { Pa.zero with k := 19, fx := g }
  | closure {o u : Int} : (o = 0 ∨ o = 1) → 0 ≤ u → u < 20 → Other N { Pa.zero with k := 20, o := o, u := u }
  | rule {o u m : Int} : (o = 0 ∨ o = 1) → 0 ≤ u → u ≤ 18 → 1 ≤ m → m ≤ 50 → Other N { Pa.zero with k := 21, o := o, u := u, m := m }
/-- With its day and its tick; the number of three kinds is a day. -/
def dated (y : Pa) (d n : Int) : Pa := { y with d := d, n := n, u := if y.k = 9 ∨ y.k = 17 ∨ y.k = 20 then d + y.u else y.u }
/-- The acts that the generator may make: the first is a filing; each filing has the next number. -/
def GoodA (N : Nat) (x : Pa) : Prop := ∃ y d n, (Filing N y ∨ Other N y) ∧ 35600 ≤ d ∧ d ≤ 38000 ∧ x = dated y d n
def filN (l : List Pa) : Nat := (l.filter fun x => x.k == 0).length
def Made (l : List Pa) : Prop := ∀ (i : Nat) (h : i < l.length), GoodA (filN (l.take i)) l[i] ∧ l[i].n = 4 * (i : Int) ∧ (i = 0 → l[i].k = 0)
end PA
/- Validity in plain: spans, claims, alternatives, texts, acts. No program in sight. -/
namespace PA
open Go
def ltR (a b : Rt) : Bool := decide (a.n * b.d < b.n * a.d)
def smallR (r : Rt) : Bool := okR r && (decide (r.n ≤ 1073741824) && (decide (-1073741824 ≤ r.n) && decide (r.d ≤ 32768)))
def Iv.lw (x : Iv) : Rt := ⟨x.ln, x.ld⟩
def Iv.up (x : Iv) : Rt := ⟨x.hn, x.hd⟩
def zR (r : Rt) : Bool := r.n == 0 && r.d == 0
def eqR (a b : Rt) : Bool := a.n == b.n && a.d == b.d
/-- An interval is as it should be. -/
def goodI (x : Iv) : Bool :=
  if ((x.li && (!zR x.lw || x.lo)) || (x.hi && (!zR x.up || x.ho))) = true then false
  else if ((!x.li && !smallR x.lw) || (!x.hi && !smallR x.up)) = true then false
  else if (x.li || x.hi) = true then true
  else if eqR x.lw x.up = true then !x.lo && !x.ho else ltR x.lw x.up
def apartI (a b : Iv) : Bool :=
  if (a.hi || b.li) = true then false
  else if eqR a.up b.lw = true then a.ho && b.lo else ltR a.up b.lw
/-- Interval j is good, and apart from the one before. -/
def spAt (l : List Iv) (j : Nat) : Bool :=
  match l[j]? with
  | none => true
  | some x => goodI x && (match j with | 0 => true | j' + 1 => match l[j']? with | none => true | some y => apartI y x)
def spTo (l : List Iv) (n : Nat) : Bool := (List.range n).all (spAt l)
theorem spTo_zero (l : List Iv) : spTo l 0 = true := rfl
theorem spTo_succ (l : List Iv) (n : Nat) : spTo l (n + 1) = (spTo l n && spAt l n) := by
  unfold spTo; rw [List.range_succ, List.all_append]; simp
theorem spTo_bad {l : List Iv} {n i : Nat} (hi : i < n) (h : spAt l i = false) : spTo l n = false := by
  unfold spTo
  rw [List.all_eq_false]
  exact ⟨i, List.mem_range.2 hi, by rw [h]; decide⟩
/-- What span.Valid says. -/
def spE (l : List Iv) : Int := if spTo l l.length = false then 1 else if 32 < l.length then 4 else 0
def spP (l : List Iv) : Bool := decide (spE l = 0)
/-! ### references of claims -/
def refAt (l : List Int) (i : Nat) (k : Nat) : Bool :=
  match l[k]? with
  | none => true
  | some r => decide (0 ≤ r) && (decide (r < (i : Int)) && (match k with | 0 => true | k' + 1 => match l[k']? with | none => true | some q => decide (q < r)))
def refTo (l : List Int) (i n : Nat) : Bool := (List.range n).all (refAt l i)
theorem refTo_zero (l : List Int) (i : Nat) : refTo l i 0 = true := rfl
theorem refTo_succ (l : List Int) (i n : Nat) : refTo l i (n + 1) = (refTo l i n && refAt l i n) := by
  unfold refTo; rw [List.range_succ, List.all_append]; simp
theorem refTo_bad {l : List Int} {i n k : Nat} (hk : k < n) (h : refAt l i k = false) : refTo l i n = false := by
  unfold refTo
  rw [List.all_eq_false]
  exact ⟨k, List.mem_range.2 hk, by rw [h]; decide⟩
def refsP (l : List Int) (i : Nat) : Bool := refTo l i l.length
theorem refsP_mem {l : List Int} {i : Nat} (h : refsP l i = true) : ∀ r ∈ l, 0 ≤ r ∧ r < (i : Int) := by
  intro r hr
  obtain ⟨k, hk, rfl⟩ := List.mem_iff_getElem.1 hr
  unfold refsP refTo at h
  have := List.all_eq_true.1 h k (List.mem_range.2 hk)
  unfold refAt at this
  rw [List.getElem?_eq_getElem hk] at this
  simp only [Bool.and_eq_true, decide_eq_true_eq] at this
  exact ⟨this.1, this.2.1⟩
/-! ### claims -/
def fmE (f : Fm) : Int := f.valid spP
def clGo : Nat → List Cl → Int
  | _, [] => 0
  | i, c :: l => if 8 < c.refs.length then 4 else if refsP c.refs i = false then 1 else if fmE c.body ≠ 0 then fmE c.body else clGo (i + 1) l
def clE (l : List Cl) : Int := if 32 < l.length then 4 else clGo 0 l
theorem clGo_ok : ∀ (l : List Cl) (i : Nat), clGo i l = 0 → ∀ (k : Nat) (hk : k < l.length), l[k].refs.length ≤ 8 ∧ refsP l[k].refs (i + k) = true ∧ fmE l[k].body = 0
  | c :: l, i, h, k, hk => by
    unfold clGo at h
    split at h
    · cases h
    · rename_i h1
      split at h
      · cases h
      · rename_i h2
        split at h
        · rename_i h3; exact absurd h h3
        · rename_i h3
          cases k with
          | zero => exact ⟨by simpa using h1, by simpa using h2, by simpa using h3⟩
          | succ k =>
            have := clGo_ok l (i + 1) h k (by simpa using hk)
            simp only [List.getElem_cons_succ]
            rw [show i + (k + 1) = i + 1 + k by omega]
            exact this
theorem clE_ok {l : List Cl} (h : clE l = 0) : l.length ≤ 32 ∧ ∀ (k : Nat) (hk : k < l.length), l[k].refs.length ≤ 8 ∧ refsP l[k].refs k = true ∧ fmE l[k].body = 0 := by
  unfold clE at h
  split at h
  · cases h
  · rename_i h1
    refine ⟨by omega, fun k hk => ?_⟩
    have := clGo_ok l 0 h k hk
    rwa [Nat.zero_add] at this
/-! ### alternatives -/
mutual
def Fm.tops : Fm → List Fm
  | .mk o n i k => if o = 5 then Fm.topss k else [.mk o n i k]
def Fm.topss : List Fm → List Fm
  | [] => []
  | f :: l => Fm.tops f ++ Fm.topss l
end
def Fm.parts (f : Fm) : List Fm := if f.op = 4 then f.kids else [f]
theorem Fm.topss_snoc : ∀ (l : List Fm) (f : Fm), Fm.topss (l ++ [f]) = Fm.topss l ++ Fm.tops f
  | [], f => by simp [Fm.topss]
  | g :: l, f => by rw [List.cons_append, Fm.topss, Fm.topss, Fm.topss_snoc l f, List.append_assoc]
theorem Fm.topss_take (l : List Fm) (i : Nat) (hi : i < l.length) : Fm.topss (l.take (i + 1)) = Fm.topss (l.take i) ++ Fm.tops l[i] := by
  rw [List.take_succ_eq_append_getElem hi, Fm.topss_snoc]
def pairF (a b : Fm) : Fm := .mk 4 0 [] (a.parts ++ b.parts)
/-- All pairs, if each is a valid formula. -/
def crossO : List Fm → List Fm → Option (List Fm)
  | [], _ => some []
  | a :: x, t => if (t.all fun b => decide (fmE (pairF a b) = 0)) = true then (crossO x t).map (t.map (pairF a) ++ ·) else none
def altRefs (of : Nat → Option (List Fm)) (own : List Fm) : List Int → List Fm → Option (List Fm)
  | [], out => some out
  | r :: rs, out =>
    match of r.toNat with
    | none => none
    | some x => if 64 < out.length + x.length * own.length then none else
      match crossO x own with
      | none => none
      | some y => altRefs of own rs (out ++ y)
def altC (of : Nat → Option (List Fm)) (c : Cl) : Option (List Fm) :=
  if c.refs = [] then (if c.body.tops.length ≤ 64 then some c.body.tops else none) else altRefs of c.body.tops c.refs []
/-- The alternatives of claim k. -/
def altN (l : List Cl) (k : Nat) : Option (List Fm) :=
  match l[k]? with
  | none => none
  | some c => altC (fun r => if r < k then altN l r else none) c
termination_by k
theorem crossO_len : ∀ {x t y : List Fm}, crossO x t = some y → y.length = x.length * t.length
  | [], t, y, h => by cases h; simp
  | a :: x, t, y, h => by
    unfold crossO at h
    split at h
    · cases hc : crossO x t with
      | none => rw [hc] at h; cases h
      | some z =>
        rw [hc] at h
        cases h
        rw [List.length_append, List.length_map, crossO_len hc, List.length_cons, Nat.add_mul]; omega
    · cases h
theorem altRefs_len {of : Nat → Option (List Fm)} {own : List Fm} : ∀ {rs : List Int} {out y : List Fm}, out.length ≤ 64 → altRefs of own rs out = some y → y.length ≤ 64
  | [], out, y, h0, h => by cases h; exact h0
  | r :: rs, out, y, h0, h => by
    unfold altRefs at h
    split at h
    · cases h
    · split at h
      · cases h
      · rename_i h1
        split at h
        · cases h
        · rename_i z hz
          have hl := crossO_len hz
          exact altRefs_len (by rw [List.length_append, hl]; omega) h
theorem altN_len {l : List Cl} {k : Nat} {y : List Fm} (h : altN l k = some y) : y.length ≤ 64 := by
  unfold altN at h
  split at h
  · cases h
  · unfold altC at h
    split at h
    · split at h
      · cases h; assumption
      · cases h
    · exact altRefs_len (by simp) h
/-! ### texts -/
def fmsE : List Fm → Int
  | [] => 0
  | f :: l => if fmE f ≠ 0 then fmE f else fmsE l
/-- How many alternatives the claims up to n have together, if each has some. -/
def altsN (l : List Cl) : Nat → Option Nat
  | 0 => some 0
  | n + 1 => match altsN l n with
    | none => none
    | some s => match altN l n with
      | none => none
      | some y => some (s + y.length)
def txE (td : List Fm) (tc : List Cl) : Int :=
  if 16 < td.length then 4 else if fmsE td ≠ 0 then fmsE td else if clE tc ≠ 0 then clE tc else
    match altsN tc tc.length with
    | none => 4
    | some s => if 128 < (Fm.topss td).length + s then 4 else 0
/-! ### acts -/
def inRv (n lo hi : Int) : Bool := decide (lo ≤ n) && decide (n ≤ hi)
def ofFileV (k : Int) : Bool := decide (k ≠ 5) && (decide (k ≠ 19) && (decide (k ≠ 20) && decide (k ≠ 21)))
/-- The act without the fields that its kind has. -/
def bareP (x : Pa) : Pa :=
  { x with
    f := if ofFileV x.k = true then 0 else x.f
    o := if x.k = 0 ∨ x.k = 20 ∨ x.k = 21 then 0 else x.o
    p := if x.k = 0 ∨ x.k = 4 ∨ x.k = 5 ∨ x.k = 12 ∨ x.k = 14 ∨ x.k = 16 ∨ x.k = 17 then 0 else x.p
    q := if x.k = 0 ∨ x.k = 4 ∨ x.k = 13 ∨ x.k = 16 ∨ x.k = 17 then 0 else x.q
    u := if x.k = 4 ∨ x.k = 5 ∨ x.k = 6 ∨ x.k = 7 ∨ x.k = 8 ∨ x.k = 9 ∨ x.k = 13 ∨ x.k = 17 ∨ x.k = 18 ∨ x.k = 20 ∨ x.k = 21 then 0 else x.u
    m := if x.k = 4 ∨ x.k = 8 ∨ x.k = 21 then 0 else x.m
    sn := if x.k = 16 then 0 else x.sn
    sd := if x.k = 16 then 0 else x.sd
    td := if x.k = 0 then [] else x.td
    tc := if x.k = 0 then [] else x.tc
    cl := if x.k = 3 ∨ x.k = 15 ∨ (x.k = 13 ∧ x.u = 2) then [] else x.cl
    ea := if x.k = 0 then [] else x.ea
    fx := if x.k = 19 then Fm.zero else x.fx }
/-- All fields but Kind, Day and Known are zero or empty. -/
def cleanP (x : Pa) : Bool :=
  decide (x.f = 0) && (decide (x.o = 0) && (decide (x.p = 0) && (decide (x.q = 0) && (decide (x.u = 0) && (decide (x.m = 0) && (decide (x.sn = 0) && (decide (x.sd = 0) &&
  (decide (x.fx.op = 0) && (decide (x.fx.num = 0) && (decide (x.fx.ins.length = 0) && (decide (x.fx.kids.length = 0) &&
  (decide (x.td.length = 0) && (decide (x.tc.length = 0) && (decide (x.cl.length = 0) && decide (x.ea.length = 0)))))))))))))))
/-- Earlier j is as it should be; f: the own file. -/
def eaAt (f : Int) (l : List Ea) (j : Nat) : Bool :=
  match l[j]? with
  | none => true
  | some e => inRv e.file 0 4095 && (decide (e.file ≠ f) && (inRv e.day 0 131072 && !((l.take j).any fun g => decide (g.file = e.file))))
def eaTo (f : Int) (l : List Ea) (n : Nat) : Bool := (List.range n).all (eaAt f l)
theorem eaTo_succ (f : Int) (l : List Ea) (n : Nat) : eaTo f l (n + 1) = (eaTo f l n && eaAt f l n) := by
  unfold eaTo; rw [List.range_succ, List.all_append]; simp
theorem eaTo_bad {f : Int} {l : List Ea} {n i : Nat} (hi : i < n) (h : eaAt f l i = false) : eaTo f l n = false := by
  unfold eaTo
  rw [List.all_eq_false]
  exact ⟨i, List.mem_range.2 hi, by rw [h]; decide⟩
def filingP (x : Pa) : Bool :=
  if inRv x.o 0 11 = false ∨ inRv x.p 1 4095 = false ∨ inRv x.q (-1) 4095 = false ∨ x.q = x.f ∨ 8 < x.ea.length ∨ txE x.td x.tc ≠ 0 then false else eaTo x.f x.ea x.ea.length
def listedP (l : List Cl) : Bool := decide (0 < l.length) && decide (clE l = 0)
def partiesP (x : Pa) : Bool := inRv x.p 1 4095 && (inRv x.q 1 4095 && decide (x.p ≠ x.q))
def laterP (x : Pa) : Bool := inRv x.u x.d 131072
/-- A share that is valid, greater than 0 and at most 1. -/
def shareOK (n d : Int) : Bool := okR ⟨n, d⟩ && (decide (0 < n) && decide (n ≤ d))
def formedP (x : Pa) : Bool :=
  if x.k = 0 then filingP x
  else if x.k = 3 ∨ x.k = 15 then listedP x.cl
  else if x.k = 4 then inRv x.p 1 4095 && ((inRv x.u 0 5 || inRv x.u 7 66) && (inRv x.q 0 7 && inRv x.m 1 1099511627776))
  else if x.k = 5 then inRv x.p 1 4095 && inRv x.u 0 1
  else if x.k = 6 ∨ x.k = 7 then inRv x.u 0 255
  else if x.k = 8 then inRv x.u 0 255 && inRv x.m 1 12
  else if x.k = 9 then laterP x
  else if x.k = 12 ∨ x.k = 14 then inRv x.p 1 4095
  else if x.k = 13 then inRv x.u 0 2 && (inRv x.q 0 1 && (decide (x.u ≠ 2) || listedP x.cl))
  else if x.k = 16 then partiesP x && shareOK x.sn x.sd
  else if x.k = 17 then partiesP x && laterP x
  else if x.k = 18 then inRv x.u 0 7
  else if x.k = 19 then decide (fmE x.fx = 0)
  else if x.k = 20 then inRv x.o 0 11 && laterP x
  else if x.k = 21 then inRv x.o 0 11 && (inRv x.u 0 18 && inRv x.m 0 1099511627776)
  else true
def validA (x : Pa) : Bool :=
  inRv x.k 0 21 && (inRv x.d 0 131072 && (inRv x.n 0 1099511627776 && (inRv x.f 0 4095 && (cleanP (bareP x) && formedP x))))
end PA
/- Package ratio: gcd, size, build, New, Valid, Add, Sub. -/
namespace Go.Proofs.YtodipneapffjdaaGreatDoor
open Go.RowKit PA
/-- The two cells of a ratio in memory. -/
theorem rt2 {W w : World} {A : Assn} {q : Nat} {u v : Value} {t : TypeId} (h : Sat W w (sep (blk q (.cells #[u, v] t (0, 0))) A)) :
    w.cell? ⟨q, 0, none⟩ = some u ∧ w.cell? ⟨q, 1, none⟩ = some v ∧ w.frozen? ⟨q, 0, none⟩ = false ∧ w.frozen? ⟨q, 1, none⟩ = false := ⟨h.cell 0, h.cell 1, h.unfrozen 0, h.unfrozen 1⟩
end Go.Proofs.YtodipneapffjdaaGreatDoor
/- Package ratio: New, Valid, valid, Add, Sub. -/
namespace Go.Proofs.YtodipneapffjdaaGreatDoor
open Go.RowKit PA
theorem rt_neq (w : World) (a b c d : Int) : (binOp .neq 27 (.agg #[.int .i64 a, .int .i64 b]) (.agg #[.int .i64 c, .int .i64 d])).run Tryz.prog w = .ok (.bool (!(a == c && b == d))) w := by
  have h1 : Tryz.prog.underlying 27 = some (.struct (Tryz.prog.fieldsOf 27)) := by kernel_rfl
  have h2 : Tryz.prog.stoodInHeld 27 = false := by kernel_rfl
  have e := run_equalIn_struct (P := Tryz.prog) w 9999 27 #[.int .i64 a, .int .i64 b] #[.int .i64 c, .int .i64 d] h1 h2
  rw [run_neq_struct, e]
  clear e
  have q0 : ∀ a b : Int, (part 3 #[.int .i64 a, .int .i64 b] 0).run Tryz.prog w = .ok (.int .i64 a) w := fun a b => by kernel_rfl
  have q1 : ∀ a b : Int, (part 3 #[.int .i64 a, .int .i64 b] 1).run Tryz.prog w = .ok (.int .i64 b) w := fun a b => by kernel_rfl
  have r0 : ∀ a b : Int, (Op.equalIn 9999 3 (.int .i64 a) (.int .i64 b)).run Tryz.prog w = .ok (a == b) w := fun a b => run_equalIn_int (P := Tryz.prog) w 9998 3 .i64 .i64 a b Tryz.underlying3
  by_cases e1 : a = c
  · by_cases e2 : b = d
    · simp [Program.fieldsOf, Tryz.underlying27, Op.eqFields, q0, q1, r0, e1, e2]
    · simp [Program.fieldsOf, Tryz.underlying27, Op.eqFields, q0, q1, r0, e1, e2]
  · simp [Program.fieldsOf, Tryz.underlying27, Op.eqFields, q0, r0, e1]
structure RtB (r : Rt) : Prop where
  n1 : -9223372036854775808 ≤ r.n
  n2 : r.n ≤ 9223372036854775807
  d1 : -9223372036854775808 ≤ r.d
  d2 : r.d ≤ 9223372036854775807
theorem RtB.of {r : Rt} (h : Rok r) : RtB r := ⟨by have := h.n1; omega, by have := h.n2; omega, by have := h.d1; omega, by have := h.d2; omega⟩
end Go.Proofs.YtodipneapffjdaaGreatDoor
