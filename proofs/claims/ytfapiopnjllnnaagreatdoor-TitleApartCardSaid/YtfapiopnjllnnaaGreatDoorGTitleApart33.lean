/- Formulas of features in plain: trees; sizes, depths, whether they are as they should be; what both sides write of them. No program in sight. -/
import Derived.Test.YtfapiopnjllnnaaGreatDoorGTitleApart4
import Derived.Test.YtfapiopnjllnnaaGreatDoorGTitleApart32
import Derived.Test.YtfapiopnjllnnaaGreatDoorGTitleApart6
import Derived.Test.YtfapiopnjllnnaaGreatDoorGTitleApart20
import Derived.Test.YtfapiopnjllnnaaGreatDoorGTitleApart27
namespace PA
open Go
structure Iv where
  ln : Int
  ld : Int
  hn : Int
  hd : Int
  lo : Bool
  ho : Bool
  li : Bool
  hi : Bool
  deriving DecidableEq
inductive Fm where
  | mk (op n : Int) (ins : List Iv) (kids : List Fm)
namespace Fm
def op : Fm → Int | mk o _ _ _ => o
def num : Fm → Int | mk _ n _ _ => n
def ins : Fm → List Iv | mk _ _ i _ => i
def kids : Fm → List Fm | mk _ _ _ k => k
theorem ind {P : Fm → Prop} (h : ∀ o n i k, (∀ f ∈ k, P f) → P (mk o n i k)) : ∀ f, P f
  | mk o n i k => h o n i k fun f _ => ind h f
mutual
def size : Fm → Nat
  | mk _ _ _ k => sizes k + 1
def sizes : List Fm → Nat
  | [] => 0
  | f :: l => size f + sizes l
end
mutual
def deep : Fm → Nat
  | mk _ _ _ k => deeps k + 1
def deeps : List Fm → Nat
  | [] => 0
  | f :: l => max (deep f) (deeps l)
end
mutual
/-- The nodes, each before its kids. -/
def nodes : Fm → List Fm
  | mk o n i k => mk o n i k :: nodess k
def nodess : List Fm → List Fm
  | [] => []
  | f :: l => nodes f ++ nodess l
end
/-- Whether a node is as it should be, apart from its kids; sp: its intervals are. -/
def formed (sp : List Iv → Bool) : Fm → Bool
  | mk o n i k =>
    if (o ≠ 2 ∧ i ≠ []) ∨ (o ≠ 2 ∧ o ≠ 1 ∧ n ≠ 0) then false
    else if o = 0 then k.isEmpty
    else if o = 1 then k.isEmpty && decide (0 ≤ n) && decide (n < 64)
    else if o = 2 then k.isEmpty && decide (0 ≤ n) && decide (n < 32) && sp i
    else if o = 3 ∨ o = 6 then decide (k.length = 1)
    else decide (o = 4) || decide (o = 5)
mutual
def whole (sp : List Iv → Bool) : Fm → Bool
  | mk o n i k => formed sp (mk o n i k) && wholes sp k
def wholes (sp : List Iv → Bool) : List Fm → Bool
  | [] => true
  | f :: l => whole sp f && wholes sp l
end
mutual
theorem whole_nodes (sp : List Iv → Bool) : ∀ f, whole sp f = (nodes f).all (formed sp)
  | mk o n i k => by rw [whole, nodes, List.all_cons, wholes_nodes sp k]
theorem wholes_nodes (sp : List Iv → Bool) : ∀ l, wholes sp l = (nodess l).all (formed sp)
  | [] => rfl
  | f :: l => by rw [wholes, nodess, List.all_append, whole_nodes sp f, wholes_nodes sp l]
end
mutual
theorem size_nodes : ∀ f, (nodes f).length = size f
  | mk o n i k => by rw [nodes, List.length_cons, sizes_nodes k, size]
theorem sizes_nodes : ∀ l, (nodess l).length = sizes l
  | [] => rfl
  | f :: l => by rw [nodess, List.length_append, size_nodes f, sizes_nodes l, sizes]
end
def boolI (b : Bool) : Int := if b = true then 1 else 0
/-- A list of numbers with its length. -/
def encIs (l : List Int) : List UInt8 := Lib.uvarint l.length ++ l.flatMap encI
def ivInts (x : Iv) : List Int := [x.ln, x.ld, x.hn, x.hd, boolI x.lo, boolI x.ho, boolI x.li, boolI x.hi]
def nodeE : Fm → List UInt8
  | mk o n i k => encI o ++ (encI n ++ (encI (i.length : Int) ++ (i.flatMap (fun x => encIs (ivInts x)) ++ encI (k.length : Int))))
/-- The bytes of a formula. -/
def enc (f : Fm) : List UInt8 := (nodes f).flatMap nodeE
theorem enc_mk (o n : Int) (i : List Iv) (k : List Fm) : enc (mk o n i k) = nodeE (mk o n i k) ++ (nodess k).flatMap nodeE := by
  unfold enc; rw [nodes, List.flatMap_cons]
theorem encs_cons (f : Fm) (l : List Fm) : (nodess (f :: l)).flatMap nodeE = enc f ++ (nodess l).flatMap nodeE := by
  unfold enc; rw [nodess, List.flatMap_append]
def valid (sp : List Iv → Bool) (f : Fm) : Int := if 96 < size f ∨ 8 < deep f then 4 else if whole sp f = true then 0 else 1
end Fm
end PA
/- Formulas in memory: what cells read as a formula. No program in sight. -/
namespace PA
open Go Go.RowKit
def rIv : Rep Iv := ⟨fun _ cs x => cs = [.int .i64 x.ln, .int .i64 x.ld, .int .i64 x.hn, .int .i64 x.hd, .bool x.lo, .bool x.ho, .bool x.li, .bool x.hi], fun _ h => h⟩
mutual
def relF (I : Mem) : Fm → List Value → Prop
  | .mk o n i k, cs => ∃ (a : Option Addr) (c : Nat) (b : Option Addr) (d : Nat), cs = [.int .i64 o, .int .i64 n, .slice a i.length c, .slice b k.length d] ∧ (rIv.slice 8).rel I [.slice a i.length c] i ∧ Swf b k.length d ∧ ∃ css, cellsAt b css.flatten I ∧ relFs I k css
def relFs (I : Mem) : List Fm → List (List Value) → Prop
  | [], css => css = []
  | f :: l, css => ∃ c t, css = c :: t ∧ (relF I f c ∧ c.length = 4) ∧ relFs I l t
end
mutual
theorem relF_mono {I J : Mem} (hl : Mem.le I J) : ∀ (f : Fm) (cs : List Value), relF I f cs → relF J f cs
  | .mk o n i k, cs, ⟨a, c, b, d, e, hi, hw, css, hc, hk⟩ => ⟨a, c, b, d, e, (rIv.slice 8).mono hl hi, hw, css, cellsAt_mono hl hc, relFs_mono hl k css hk⟩
theorem relFs_mono {I J : Mem} (hl : Mem.le I J) : ∀ (l : List Fm) (css : List (List Value)), relFs I l css → relFs J l css
  | [], _, h => h
  | f :: l, _, ⟨c, t, e, h1, h2⟩ => ⟨c, t, e, ⟨relF_mono hl f c h1.1, h1.2⟩, relFs_mono hl l t h2⟩
end
def rF : Rep Fm := ⟨fun I cs f => relF I f cs, fun hl h => relF_mono hl _ _ h⟩
theorem relFs_all {I : Mem} : ∀ {l : List Fm} {css : List (List Value)}, relFs I l css ↔ All2 (fun c x => rF.rel I c x ∧ c.length = 4) css l
  | [], [] => ⟨fun _ => trivial, fun _ => rfl⟩
  | [], _ :: _ => ⟨fun h => (by cases h), fun h => False.elim h⟩
  | f :: l, [] => ⟨fun ⟨_, _, h, _⟩ => (by cases h), fun h => False.elim h⟩
  | f :: l, c :: t => by
    constructor
    · rintro ⟨c', t', e, h1, h2⟩
      cases e
      exact ⟨h1, relFs_all.1 h2⟩
    · rintro ⟨h1, h2⟩
      exact ⟨c, t, rfl, h1, relFs_all.2 h2⟩
/-- A formula's cells: its numbers, its intervals, its kids. -/
theorem rF_iff {I : Mem} {cs : List Value} {o n : Int} {i : List Iv} {k : List Fm} : rF.rel I cs (.mk o n i k) ↔ ∃ (a : Option Addr) (c : Nat) (b : Option Addr) (d : Nat), cs = [.int .i64 o, .int .i64 n, .slice a i.length c, .slice b k.length d] ∧ (rIv.slice 8).rel I [.slice a i.length c] i ∧ (rF.slice 4).rel I [.slice b k.length d] k := by
  constructor
  · rintro ⟨a, c, b, d, e, hi, hw, css, hc, hk⟩
    exact ⟨a, c, b, d, e, hi, b, d, css.flatten, rfl, hw, hc, css, rfl, relFs_all.1 hk⟩
  · rintro ⟨a, c, b, d, e, hi, b', d', cells, e2, hw, hc, css, rfl, hk⟩
    cases e2
    exact ⟨a, c, b, d, e, hi, hw, css, hc, relFs_all.2 hk⟩
end PA
/- Acts whole, in plain: formulas, claims, earlier ones; what the generator of chapter 18 may make. No program in sight. -/
namespace PA
open Go Go.RowKit
structure Cl where
  refs : List Int
  body : Fm
structure Ea where
  file : Int
  day : Int
/-- An act whole. -/
structure Pa where
  k : Int
  d : Int
  n : Int
  f : Int
  o : Int
  p : Int
  q : Int
  u : Int
  m : Int
  sn : Int
  sd : Int
  td : List Fm
  tc : List Cl
  cl : List Cl
  ea : List Ea
  fx : Fm
def Fm.zero : Fm := .mk 0 0 [] []
def Pa.zero : Pa := ⟨0, 0, 0, 0, 0, 0, 0, 0, 0, 0, 0, [], [], [], [], Fm.zero⟩
def rEa : Rep Ea := ⟨fun _ cs x => cs = [.int .i64 x.file, .int .i64 x.day], fun _ h => h⟩
def rCl : Rep Cl := ⟨fun I cs x => ∃ (a : Option Addr) (c : Nat) (b : List Value), cs = .slice a x.refs.length c :: b ∧ (rInt.slice 1).rel I [.slice a x.refs.length c] x.refs ∧ rF.rel I b x.body,
  fun hl ⟨a, c, b, e, h1, h2⟩ => ⟨a, c, b, e, (rInt.slice 1).mono hl h1, rF.mono hl h2⟩⟩
/-- An act's cells read as an act. -/
structure IsA (I : Mem) (z : Ac) (x : Pa) : Prop where
  k : z.k = x.k
  d : z.d = x.d
  n : z.n = x.n
  f : z.f = x.f
  o : z.o = x.o
  p : z.p = x.p
  q : z.q = x.q
  u : z.u = x.u
  m : z.m = x.m
  sn : z.sn = x.sn
  sd : z.sd = x.sd
  td : (rF.slice 4).rel I [z.td.v] x.td
  tc : (rCl.slice 5).rel I [z.tc.v] x.tc
  cl : (rCl.slice 5).rel I [z.cl.v] x.cl
  ea : (rEa.slice 2).rel I [z.ea.v] x.ea
  fx : rF.rel I [.int .i64 z.fo, .int .i64 z.fn, z.fi.v, z.fk.v] x.fx
theorem IsA.mono {I J : Mem} {z : Ac} {x : Pa} (hl : Mem.le I J) (h : IsA I z x) : IsA J z x :=
  ⟨h.k, h.d, h.n, h.f, h.o, h.p, h.q, h.u, h.m, h.sn, h.sd, (rF.slice 4).mono hl h.td, (rCl.slice 5).mono hl h.tc, (rCl.slice 5).mono hl h.cl, (rEa.slice 2).mono hl h.ea, rF.mono hl h.fx⟩
theorem slice_nil {α : Type} (R : Rep α) (k : Nat) (I : Mem) : (R.slice k).rel I [.slice none 0 0] [] :=
  ⟨none, 0, [], rfl, ⟨Nat.le_refl _, Nat.zero_le _, fun _ => rfl⟩, .inl rfl, [], rfl, trivial⟩
theorem rF_zero (I : Mem) : rF.rel I [.int .i64 0, .int .i64 0, .slice none 0 0, .slice none 0 0] Fm.zero :=
  rF_iff.2 ⟨none, 0, none, 0, rfl, slice_nil _ _ _, slice_nil _ _ _⟩
theorem IsA.zero (I : Mem) : IsA I Ac.zero Pa.zero :=
  ⟨rfl, rfl, rfl, rfl, rfl, rfl, rfl, rfl, rfl, rfl, rfl, slice_nil _ _ _, slice_nil _ _ _, slice_nil _ _ _, slice_nil _ _ _, rF_zero I⟩
/-! ### what the generator may make -/
def GoodIv (x : Iv) : Prop := 0 ≤ x.ln ∧ x.ln ≤ 4 ∧ x.ld = 1 ∧ x.li = false ∧ ((x.hi = true ∧ x.hn = 0 ∧ x.hd = 0 ∧ x.ho = false) ∨ (x.hi = false ∧ x.hd = 1 ∧ x.ln < x.hn ∧ x.hn ≤ 8))
def LeafC (f : Fm) : Prop := ∃ n : Int, 0 ≤ n ∧ n < 6 ∧ f = .mk 1 n [] []
def LeafV (f : Fm) : Prop := ∃ (n : Int) (x : Iv), 0 ≤ n ∧ n < 2 ∧ GoodIv x ∧ f = .mk 2 n [x] []
inductive GoodF : Fm → Prop
  | c {f} : LeafC f → GoodF f
  | v {f} : LeafV f → GoodF f
  | andCV {f g} : LeafC f → LeafV g → GoodF (.mk 4 0 [] [f, g])
  | orCV {f g} : LeafC f → LeafV g → GoodF (.mk 5 0 [] [f, g])
  | orCC {f g} : LeafC f → LeafC g → GoodF (.mk 5 0 [] [f, g])
  | andN {f g} : LeafC f → LeafC g → GoodF (.mk 4 0 [] [f, .mk 6 0 [] [g]])
  | part {f} : LeafC f → GoodF (.mk 3 0 [] [f])
  | andP {f g} : LeafC f → LeafV g → GoodF (.mk 4 0 [] [f, .mk 3 0 [] [g]])
def GoodRefs (i : Nat) (r : List Int) : Prop := r = [] ∨ (∃ j : Nat, j < i ∧ r = [(j : Int)]) ∨ (i = 2 ∧ r = [0, 1])
def GoodCs (l : List Cl) : Prop := 1 ≤ l.length ∧ l.length ≤ 3 ∧ ∀ (i : Nat) (h : i < l.length), GoodF l[i].body ∧ GoodRefs i l[i].refs
def GoodT (td : List Fm) (tc : List Cl) : Prop := 1 ≤ td.length ∧ td.length ≤ 2 ∧ (∀ f ∈ td, GoodF f) ∧ GoodCs tc
/-- A file below the file with number 5 N. -/
def FileB (N : Nat) (z : Int) : Prop := ∃ j : Nat, j < N ∧ z = 5 * (j : Int)
def GoodEa (N : Nat) (l : List Ea) : Prop := l.length ≤ 2 ∧ (∀ e ∈ l, FileB N e.file ∧ 35600 ≤ e.day ∧ e.day ≤ 38001) ∧ l.Pairwise fun a b => a.file ≠ b.file
/-- A filing that the generator made when there were N before it, without its day. -/
def Filing (N : Nat) (y : Pa) : Prop :=
  ∃ (o p q : Int) (td : List Fm) (tc : List Cl) (ea : List Ea), y = { Pa.zero with f := 5 * (N : Int), o := o, p := p, q := q, td := td, tc := tc, ea := ea } ∧
    (o = 0 ∨ o = 1) ∧ (p = 1 ∨ p = 2) ∧ (q = -1 ∨ FileB N q) ∧ GoodT td tc ∧ GoodEa N ea
def GoodSh (n d : Int) : Prop := (n = 1 ∧ d = 1) ∨ (n = 1 ∧ d = 2) ∨ (n = 1 ∧ d = 3) ∨ (n = 2 ∧ d = 3)
/-- An act of another kind that the generator made when there were N filings, without its day. -/
inductive Other (N : Nat) : Pa → Prop
  | plain {k f : Int} : (k = 1 ∨ k = 2 ∨ k = 10 ∨ k = 11) → FileB N f → Other N { Pa.zero with k := k, f := f }
  | list {k f : Int} {cl : List Cl} : (k = 3 ∨ k = 15) → FileB N f → GoodCs cl → Other N { Pa.zero with k := k, f := f, cl := cl }
  | pay {f p q u m : Int} : FileB N f → (p = 1 ∨ p = 2) → (q = 0 ∨ q = 1) → ((0 ≤ u ∧ u ≤ 5) ∨ (9 ≤ u ∧ u ≤ 11)) → 1 ≤ m → m ≤ 1000 → Other N { Pa.zero with k := 4, f := f, p := p, q := q, u := u, m := m }
  | small {p u : Int} : (p = 1 ∨ p = 2) → (u = 0 ∨ u = 1) → Other N { Pa.zero with k := 5, p := p, u := u }
  | order {k f u : Int} : (k = 6 ∨ k = 7 ∨ k = 18 ∨ k = 9) → FileB N f → 0 ≤ u → u < 60 → (k ≠ 9 → u ≤ 2) → Other N { Pa.zero with k := k, f := f, u := u }
  | extend {f u m : Int} : FileB N f → 0 ≤ u → u ≤ 2 → 1 ≤ m → m ≤ 4 → Other N { Pa.zero with k := 8, f := f, u := u, m := m }
  | oppose {k f p : Int} : (k = 12 ∨ k = 14) → FileB N f → 1 ≤ p → p ≤ 4 → Other N { Pa.zero with k := k, f := f, p := p }
  | decide {f q u : Int} {cl : List Cl} : FileB N f → (q = 0 ∨ q = 1) → ((u = 0 ∨ u = 1) ∧ cl = [] ∨ u = 2 ∧ GoodCs cl) → Other N { Pa.zero with k := 13, f := f, q := q, u := u, cl := cl }
  | transfer {f p q sn sd : Int} : FileB N f → 1 ≤ p → p ≤ 3 → p < q → q ≤ p + 2 → GoodSh sn sd → Other N { Pa.zero with k := 16, f := f, p := p, q := q, sn := sn, sd := sd }
  | licence {f p q u : Int} : FileB N f → 1 ≤ p → p ≤ 3 → p < q → q ≤ p + 2 → 0 ≤ u → u < 2000 → Other N { Pa.zero with k := 17, f := f, p := p, q := q, u := u }
  | art {g : Fm} : GoodF g → Other N { Pa.zero with k := 19, fx := g }
  | closure {o u : Int} : (o = 0 ∨ o = 1) → 0 ≤ u → u < 20 → Other N { Pa.zero with k := 20, o := o, u := u }
  | rule {o u m : Int} : (o = 0 ∨ o = 1) → 0 ≤ u → u ≤ 18 → 1 ≤ m → m ≤ 50 → Other N { Pa.zero with k := 21, o := o, u := u, m := m }
/-- With its day and its tick; the number of three kinds is a day. -/
def dated (y : Pa) (d n : Int) : Pa := { y with d := d, n := n, u := if y.k = 9 ∨ y.k = 17 ∨ y.k = 20 then d + y.u else y.u }
/-- The acts that the generator may make: the first is a filing; each filing has the next number. -/
def GoodA (N : Nat) (x : Pa) : Prop := ∃ y d n, (Filing N y ∨ Other N y) ∧ 35600 ≤ d ∧ d ≤ 38000 ∧ x = dated y d n
def filN (l : List Pa) : Nat := (l.filter fun x => x.k == 0).length
def Made (l : List Pa) : Prop := ∀ (i : Nat) (h : i < l.length), GoodA (filN (l.take i)) l[i] ∧ l[i].n = 4 * (i : Int) ∧ (i = 0 → l[i].k = 0)
end PA
/- Literals of bytes and of other one-cell elements. -/
namespace Go.Proofs.YtfapiopnjllnnaaGreatDoor
open Go.RowKit PA
theorem litB {W w : World} {A : Assn} {I : Mem} (h : Sat W w (sep (kn I) A)) (bs : List UInt8) (t : TypeId) (hb : bs.length ≤ maxLen) :
    ∃ J, Mem.le I J ∧ rBytes.rel J [.slice (some ⟨w.heap.size, 0, none⟩) bs.length bs.length] bs ∧ Sat W (w.alloc (.cells (bs.map bv).toArray t)) (sep (kn J) A) := by
  obtain ⟨J, h1, h2, h3⟩ := (h.bytes_of_alloc bs t (0, 0) hb).learn
  exact ⟨J, h1, h2, h3⟩
theorem litI {W w : World} {A : Assn} {I : Mem} (h : Sat W w (sep (kn I) A)) (ns : List Int) (t : TypeId) (hb : ns.length ≤ maxLen) :
    ∃ J, Mem.le I J ∧ (rInt.slice 1).rel J [.slice (some ⟨w.heap.size, 0, none⟩) ns.length ns.length] ns ∧ Sat W (w.alloc (.cells (ns.map iv).toArray t)) (sep (kn J) A) := by
  have h1 := (h.alloc (.cells (ns.map iv).toArray t)).settle
  obtain ⟨J, hle, hp, h2⟩ := (show Sat W _ (sep (imm w.heap.size (.cells (ns.map iv).toArray t)) (sep (kn I) A)) from h1).learn
  refine ⟨J, hle, ints_rel.2 ⟨_, _, rfl, ⟨Nat.le_refl _, hb, fun h => by cases h⟩, .inr ⟨w.heap.size, 0, _, t, (0, 0), rfl, hp, fun i u hu => by simpa using hu⟩⟩, h2⟩
theorem litO {W w : World} {A : Assn} {E : Nat} (h : Sat W w A) (xs : List Value) (n : Nat) (hn : n = xs.length) (hl : n ≤ maxLen) : Sat W (w.alloc (.cells xs.toArray E)) (sep (osl E 1 (some ⟨w.heap.size, 0, none⟩) n n xs) A) := by
  subst hn
  exact (h.alloc (.cells xs.toArray E)).osl_mk xs.length xs.length 1 xs (by simp) (Nat.le_refl _) hl (by simp) (by simp)
theorem nilB (I : Mem) : rBytes.rel I [.slice none 0 0] [] := bytes_rel.2 ⟨none, 0, rfl, ⟨Nat.le_refl _, Nat.zero_le _, fun _ => rfl⟩, .inl rfl⟩
theorem nilI (I : Mem) : (rInt.slice 1).rel I [.slice none 0 0] [] := ints_rel.2 ⟨none, 0, rfl, ⟨Nat.le_refl _, Nat.zero_le _, fun _ => rfl⟩, .inl rfl⟩
end Go.Proofs.YtfapiopnjllnnaaGreatDoor
