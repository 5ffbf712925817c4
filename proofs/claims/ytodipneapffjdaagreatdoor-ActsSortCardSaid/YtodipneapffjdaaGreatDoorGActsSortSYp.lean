/- Acts that the generator makes are valid: in plain, no program in sight. -/
import Derived.Test.YtodipneapffjdaaGreatDoorGActsSort6
namespace PA
open Go
theorem okR_int {n : Int} (h : n.natAbs ≤ 1099511627776) : okR ⟨n, 1⟩ = true := okR_mk n 1 (by omega) (by omega) h (by simp)
theorem smallR_int {n : Int} (h1 : -8 ≤ n) (h2 : n ≤ 8) : smallR ⟨n, 1⟩ = true := by
  unfold smallR
  rw [okR_int (by omega), decide_eq_true (by show n ≤ 1073741824; omega), decide_eq_true (by show -1073741824 ≤ n; omega)]
  rfl
theorem goodI_of {x : Iv} (h : GoodIv x) : goodI x = true := by
  obtain ⟨h1, h2, h3, h4, h5⟩ := h
  obtain ⟨ln, ld, hn, hd, lo, ho, li, hi⟩ := x
  simp only at h1 h2 h3 h4 h5
  subst h3 h4
  have e1 : ∀ hn hd lo ho li hi, smallR (Iv.lw ⟨ln, 1, hn, hd, lo, ho, li, hi⟩) = true := fun _ _ _ _ _ _ => smallR_int (n := ln) (by omega) (by omega)
  rcases h5 with ⟨rfl, rfl, rfl, rfl⟩ | ⟨rfl, rfl, h6, h7⟩
  · unfold goodI; rw [e1]; simp [zR, Iv.up]
  · have e2 : smallR (Iv.up ⟨ln, 1, hn, 1, lo, ho, false, false⟩) = true := smallR_int (n := hn) (by omega) (by omega)
    have e3 : eqR (Iv.lw ⟨ln, 1, hn, 1, lo, ho, false, false⟩) (Iv.up ⟨ln, 1, hn, 1, lo, ho, false, false⟩) = false := by
      unfold eqR Iv.lw Iv.up
      rw [show (ln == hn) = false by simpa using (by omega : ¬ ln = hn)]; rfl
    have e4 : ltR (Iv.lw ⟨ln, 1, hn, 1, lo, ho, false, false⟩) (Iv.up ⟨ln, 1, hn, 1, lo, ho, false, false⟩) = true := by
      unfold ltR Iv.lw Iv.up
      exact decide_eq_true (show ln * 1 < hn * 1 by omega)
    unfold goodI; rw [e1, e2, e3, e4]; simp
theorem spP_one {x : Iv} (h : goodI x = true) : spP [x] = true := by
  have e : spTo [x] 1 = true := by rw [spTo_succ, spTo_zero]; simp [spAt, h]
  unfold spP spE
  rw [show ([x] : List Iv).length = 1 from rfl, e]; simp
theorem leafC_ok {f : Fm} (h : LeafC f) : Fm.whole spP f = true ∧ f.size = 1 ∧ f.deep = 1 ∧ f.tops = [f] ∧ f.parts = [f] := by
  obtain ⟨n, h1, h2, rfl⟩ := h
  refine ⟨?_, by simp [Fm.size, Fm.sizes], by simp [Fm.deep, Fm.deeps], by simp [Fm.tops], by simp [Fm.parts, Fm.op]⟩
  simp [Fm.whole, Fm.formed, Fm.wholes]; omega
theorem leafV_ok {f : Fm} (h : LeafV f) : Fm.whole spP f = true ∧ f.size = 1 ∧ f.deep = 1 ∧ f.tops = [f] ∧ f.parts = [f] := by
  obtain ⟨n, x, h1, h2, hx, rfl⟩ := h
  refine ⟨?_, by simp [Fm.size, Fm.sizes], by simp [Fm.deep, Fm.deeps], by simp [Fm.tops], by simp [Fm.parts, Fm.op]⟩
  have := spP_one (goodI_of hx)
  simp [Fm.whole, Fm.formed, Fm.wholes, this]; omega
structure FmG (f : Fm) : Prop where
  wh : Fm.whole spP f = true
  sz : f.size ≤ 4
  dp : f.deep ≤ 3
theorem goodF_ok {f : Fm} (h : GoodF f) : FmG f := by
  cases h with
  | c h => obtain ⟨a, b, c, -⟩ := leafC_ok h; exact ⟨a, by omega, by omega⟩
  | v h => obtain ⟨a, b, c, -⟩ := leafV_ok h; exact ⟨a, by omega, by omega⟩
  | andCV h g => obtain ⟨a, b, c, -⟩ := leafC_ok h; obtain ⟨a', b', c', -⟩ := leafV_ok g; exact ⟨by simp [Fm.whole, Fm.formed, Fm.wholes, a, a'], by simp [Fm.size, Fm.sizes, b, b'], by simp [Fm.deep, Fm.deeps, c, c']⟩
  | orCV h g => obtain ⟨a, b, c, -⟩ := leafC_ok h; obtain ⟨a', b', c', -⟩ := leafV_ok g; exact ⟨by simp [Fm.whole, Fm.formed, Fm.wholes, a, a'], by simp [Fm.size, Fm.sizes, b, b'], by simp [Fm.deep, Fm.deeps, c, c']⟩
  | orCC h g => obtain ⟨a, b, c, -⟩ := leafC_ok h; obtain ⟨a', b', c', -⟩ := leafC_ok g; exact ⟨by simp [Fm.whole, Fm.formed, Fm.wholes, a, a'], by simp [Fm.size, Fm.sizes, b, b'], by simp [Fm.deep, Fm.deeps, c, c']⟩
  | andN h g => obtain ⟨a, b, c, -⟩ := leafC_ok h; obtain ⟨a', b', c', -⟩ := leafC_ok g; exact ⟨by simp [Fm.whole, Fm.formed, Fm.wholes, a, a'], by simp [Fm.size, Fm.sizes, b, b'], by simp [Fm.deep, Fm.deeps, c, c']⟩
  | part h => obtain ⟨a, b, c, -⟩ := leafC_ok h; exact ⟨by simp [Fm.whole, Fm.formed, Fm.wholes, a], by simp [Fm.size, Fm.sizes, b], by simp [Fm.deep, Fm.deeps, c]⟩
  | andP h g => obtain ⟨a, b, c, -⟩ := leafC_ok h; obtain ⟨a', b', c', -⟩ := leafV_ok g; exact ⟨by simp [Fm.whole, Fm.formed, Fm.wholes, a, a'], by simp [Fm.size, Fm.sizes, b, b'], by simp [Fm.deep, Fm.deeps, c, c']⟩
theorem fmE_ok {f : Fm} (h1 : Fm.whole spP f = true) (h2 : f.size ≤ 96) (h3 : f.deep ≤ 8) : fmE f = 0 := by
  unfold fmE Fm.valid; rw [if_neg (by omega), if_pos h1]
theorem goodF_E {f : Fm} (h : GoodF f) : fmE f = 0 := by
  have := goodF_ok h
  exact fmE_ok this.wh (by have := this.sz; omega) (by have := this.dp; omega)
/-! ### alternatives -/
structure AltG (n : Nat) (f : Fm) : Prop where
  wh : Fm.wholes spP f.parts = true
  sz : Fm.sizes f.parts ≤ n
  dp : Fm.deeps f.parts ≤ 3
theorem AltG.up {m n : Nat} {f : Fm} (h : AltG m f) (hmn : m ≤ n) : AltG n f := ⟨h.wh, Nat.le_trans h.sz hmn, h.dp⟩
theorem wholes_app (sp : List Iv → Bool) : ∀ a b : List Fm, Fm.wholes sp (a ++ b) = (Fm.wholes sp a && Fm.wholes sp b)
  | [], b => by simp [Fm.wholes]
  | f :: a, b => by rw [List.cons_append, Fm.wholes, Fm.wholes, wholes_app sp a b, Bool.and_assoc]
theorem sizes_app : ∀ a b : List Fm, Fm.sizes (a ++ b) = Fm.sizes a + Fm.sizes b
  | [], b => by simp [Fm.sizes]
  | f :: a, b => by rw [List.cons_append, Fm.sizes, Fm.sizes, sizes_app a b]; omega
theorem deeps_app : ∀ a b : List Fm, Fm.deeps (a ++ b) = max (Fm.deeps a) (Fm.deeps b)
  | [], b => by simp [Fm.deeps]
  | f :: a, b => by rw [List.cons_append, Fm.deeps, Fm.deeps, deeps_app a b]; omega
theorem pair_parts (a b : Fm) : (pairF a b).parts = a.parts ++ b.parts := by simp [pairF, Fm.parts, Fm.op, Fm.kids]
theorem pair_alt {m n : Nat} {a b : Fm} (ha : AltG m a) (hb : AltG n b) : AltG (m + n) (pairF a b) := by
  constructor
  · rw [pair_parts, wholes_app, ha.wh, hb.wh]; rfl
  · rw [pair_parts, sizes_app]; have := ha.sz; have := hb.sz; omega
  · rw [pair_parts, deeps_app]; have := ha.dp; have := hb.dp; omega
theorem pair_ok {m n : Nat} {a b : Fm} (ha : AltG m a) (hb : AltG n b) (h : m + n ≤ 90) : fmE (pairF a b) = 0 := by
  have hp := pair_alt ha hb
  have e := pair_parts a b
  refine fmE_ok ?_ ?_ ?_
  · have := hp.wh; rw [e] at this; simp [pairF, Fm.whole, Fm.formed, this]
  · have := hp.sz; rw [e] at this; rw [pairF, Fm.size]; omega
  · have := hp.dp; rw [e] at this; rw [pairF, Fm.deep]; omega
theorem alt_leaf {f : Fm} (h : Fm.whole spP f = true ∧ f.size = 1 ∧ f.deep = 1 ∧ f.tops = [f] ∧ f.parts = [f]) : AltG 4 f := by
  obtain ⟨a, b, c, -, e⟩ := h
  constructor <;> rw [e] <;> simp [Fm.wholes, Fm.sizes, Fm.deeps, a, b, c]
theorem goodF_tops {f : Fm} (h : GoodF f) : (∀ t ∈ f.tops, AltG 4 t) ∧ f.tops.length ≤ 2 := by
  cases h with
  | c h =>
    have k := leafC_ok h
    have al := alt_leaf k
    rw [k.2.2.2.1]; exact ⟨by intro t ht; rw [List.mem_singleton.1 ht]; exact al, by simp⟩
  | v h =>
    have k := leafV_ok h
    have al := alt_leaf k
    rw [k.2.2.2.1]; exact ⟨by intro t ht; rw [List.mem_singleton.1 ht]; exact al, by simp⟩
  | andCV h g =>
    obtain ⟨a, b, c, -⟩ := leafC_ok h; obtain ⟨a', b', c', -⟩ := leafV_ok g
    rw [Fm.tops, if_neg (by decide)]
    refine ⟨fun t ht => ?_, by simp⟩
    rw [List.mem_singleton.1 ht]
    constructor <;> simp [Fm.parts, Fm.op, Fm.kids, Fm.wholes, Fm.sizes, Fm.deeps, a, b, c, a', b', c']
  | orCV h g =>
    have k := leafC_ok h; have k' := leafV_ok g
    have al := alt_leaf k; have al' := alt_leaf k'
    rw [Fm.tops, if_pos rfl, Fm.topss, Fm.topss, Fm.topss, k.2.2.2.1, k'.2.2.2.1]
    refine ⟨fun t ht => ?_, by simp⟩
    simp at ht
    rcases ht with rfl | rfl
    · exact al
    · exact al'
  | orCC h g =>
    have k := leafC_ok h; have k' := leafC_ok g
    have al := alt_leaf k; have al' := alt_leaf k'
    rw [Fm.tops, if_pos rfl, Fm.topss, Fm.topss, Fm.topss, k.2.2.2.1, k'.2.2.2.1]
    refine ⟨fun t ht => ?_, by simp⟩
    simp at ht
    rcases ht with rfl | rfl
    · exact al
    · exact al'
  | andN h g =>
    obtain ⟨a, b, c, -⟩ := leafC_ok h; obtain ⟨a', b', c', -⟩ := leafC_ok g
    rw [Fm.tops, if_neg (by decide)]
    refine ⟨fun t ht => ?_, by simp⟩
    rw [List.mem_singleton.1 ht]
    constructor <;> simp [Fm.parts, Fm.op, Fm.kids, Fm.whole, Fm.formed, Fm.wholes, Fm.size, Fm.sizes, Fm.deep, Fm.deeps, a, b, c, a', b', c']
  | part h =>
    obtain ⟨a, b, c, -⟩ := leafC_ok h
    rw [Fm.tops, if_neg (by decide)]
    refine ⟨fun t ht => ?_, by simp⟩
    rw [List.mem_singleton.1 ht]
    constructor <;> simp [Fm.parts, Fm.op, Fm.whole, Fm.formed, Fm.wholes, Fm.size, Fm.sizes, Fm.deep, Fm.deeps, a, b, c]
  | andP h g =>
    obtain ⟨a, b, c, -⟩ := leafC_ok h; obtain ⟨a', b', c', -⟩ := leafV_ok g
    rw [Fm.tops, if_neg (by decide)]
    refine ⟨fun t ht => ?_, by simp⟩
    rw [List.mem_singleton.1 ht]
    constructor <;> simp [Fm.parts, Fm.op, Fm.kids, Fm.whole, Fm.formed, Fm.wholes, Fm.size, Fm.sizes, Fm.deep, Fm.deeps, a, b, c, a', b', c']
theorem crossO_ok {m n : Nat} {t : List Fm} (hn : ∀ b ∈ t, AltG n b) (hmn : m + n ≤ 90) : ∀ {x : List Fm}, (∀ a ∈ x, AltG m a) → ∃ y, crossO x t = some y ∧ y.length = x.length * t.length ∧ ∀ c ∈ y, AltG (m + n) c
  | [], _ => ⟨[], rfl, by simp, by simp⟩
  | a :: x, h => by
    obtain ⟨y, h1, h2, h3⟩ := crossO_ok hn hmn (x := x) (fun c hc => h c (List.mem_cons_of_mem _ hc))
    have hall : (t.all fun b => decide (fmE (pairF a b) = 0)) = true := List.all_eq_true.2 fun b hb => decide_eq_true (pair_ok (h a (List.mem_cons_self ..)) (hn b hb) hmn)
    refine ⟨t.map (pairF a) ++ y, ?_, ?_, ?_⟩
    · unfold crossO; rw [if_pos hall, h1]; rfl
    · rw [List.length_append, List.length_map, h2, List.length_cons, Nat.add_mul]; omega
    · intro c hc
      rcases List.mem_append.1 hc with hc | hc
      · obtain ⟨b, hb, rfl⟩ := List.mem_map.1 hc
        exact pair_alt (h a (List.mem_cons_self ..)) (hn b hb)
      · exact h3 c hc
theorem altN_nil {l : List Cl} {k : Nat} {c : Cl} (hc : l[k]? = some c) (hr : c.refs = []) (hF : GoodF c.body) : ∃ y, altN l k = some y ∧ y.length ≤ 2 ∧ ∀ f ∈ y, AltG 4 f := by
  refine ⟨c.body.tops, ?_, (goodF_tops hF).2, (goodF_tops hF).1⟩
  unfold altN; rw [hc]; simp only; unfold altC; rw [if_pos hr, if_pos (by have := (goodF_tops hF).2; omega)]
theorem altN_one {l : List Cl} {k j m n : Nat} {c : Cl} {y : List Fm} (hc : l[k]? = some c) (hr : c.refs = [(j : Int)]) (hj : j < k) (hF : GoodF c.body) (hy : altN l j = some y) (hyl : y.length ≤ n) (hya : ∀ f ∈ y, AltG m f) (hm : m + 4 ≤ 90) (hn : n * 2 ≤ 64) :
    ∃ z, altN l k = some z ∧ z.length ≤ n * 2 ∧ ∀ f ∈ z, AltG (m + 4) f := by
  obtain ⟨z, h1, h2, h3⟩ := crossO_ok (goodF_tops hF).1 hm hya
  have hl : y.length * c.body.tops.length ≤ n * 2 := Nat.mul_le_mul hyl (goodF_tops hF).2
  refine ⟨z, ?_, by omega, h3⟩
  unfold altN; rw [hc]; simp only; unfold altC; rw [if_neg (by rw [hr]; simp), hr]
  unfold altRefs
  simp only [Int.toNat_natCast, if_pos hj, hy]
  rw [if_neg (by simp; omega), h1]
  simp [altRefs]
theorem altN_two {l : List Cl} {k : Nat} {c : Cl} {y0 y1 : List Fm} (hc : l[k]? = some c) (hr : c.refs = [0, 1]) (hk : 2 ≤ k) (hF : GoodF c.body) (hy0 : altN l 0 = some y0) (hl0 : y0.length ≤ 4) (ha0 : ∀ f ∈ y0, AltG 8 f) (hy1 : altN l 1 = some y1) (hl1 : y1.length ≤ 4) (ha1 : ∀ f ∈ y1, AltG 8 f) :
    ∃ z, altN l k = some z ∧ z.length ≤ 16 ∧ ∀ f ∈ z, AltG 12 f := by
  obtain ⟨z0, h1, h2, h3⟩ := crossO_ok (m := 8) (n := 4) (goodF_tops hF).1 (by omega) ha0
  obtain ⟨z1, g1, g2, g3⟩ := crossO_ok (m := 8) (n := 4) (goodF_tops hF).1 (by omega) ha1
  have e0 : y0.length * c.body.tops.length ≤ 4 * 2 := Nat.mul_le_mul hl0 (goodF_tops hF).2
  have e1 : y1.length * c.body.tops.length ≤ 4 * 2 := Nat.mul_le_mul hl1 (goodF_tops hF).2
  refine ⟨z0 ++ z1, ?_, by rw [List.length_append]; omega, fun f hf => ?_⟩
  · unfold altN; rw [hc]; simp only; unfold altC; rw [if_neg (by rw [hr]; simp), hr]
    unfold altRefs
    simp only [show (0 : Int).toNat = 0 from rfl, if_pos (show 0 < k by omega), hy0]
    rw [if_neg (by simp; omega), h1]
    simp only [List.nil_append]
    unfold altRefs
    simp only [show (1 : Int).toNat = 1 from rfl, if_pos (show 1 < k by omega), hy1]
    rw [if_neg (by omega), g1]
    simp [altRefs]
  · rcases List.mem_append.1 hf with hf | hf
    · exact h3 f hf
    · exact g3 f hf
theorem goodCs_alt {l : List Cl} (h : GoodCs l) : ∀ k, k < l.length → ∃ y, altN l k = some y ∧ y.length ≤ 16 ∧ ∀ f ∈ y, AltG 12 f := by
  obtain ⟨h1, h2, h3⟩ := h
  have g0 : ∃ y, altN l 0 = some y ∧ y.length ≤ 2 ∧ ∀ f ∈ y, AltG 4 f := by
    obtain ⟨hF, hr⟩ := h3 0 h1
    refine altN_nil (List.getElem?_eq_getElem h1) ?_ hF
    rcases hr with hr | ⟨j, hj, -⟩ | ⟨hj, -⟩
    · exact hr
    · omega
    · omega
  obtain ⟨y0, a1, a2, a3⟩ := g0
  have g1 : 1 < l.length → ∃ y, altN l 1 = some y ∧ y.length ≤ 4 ∧ ∀ f ∈ y, AltG 8 f := by
    intro hk
    obtain ⟨hF, hr⟩ := h3 1 hk
    rcases hr with hr | ⟨j, hj, hr⟩ | ⟨hj, -⟩
    · obtain ⟨y, b1, b2, b3⟩ := altN_nil (List.getElem?_eq_getElem hk) hr hF
      exact ⟨y, b1, by omega, fun f hf => (b3 f hf).up (by omega)⟩
    · obtain rfl : j = 0 := by omega
      exact altN_one (List.getElem?_eq_getElem hk) hr (by omega) hF a1 a2 a3 (by omega) (by omega)
    · omega
  have g2 : 2 < l.length → ∃ y, altN l 2 = some y ∧ y.length ≤ 16 ∧ ∀ f ∈ y, AltG 12 f := by
    intro hk
    obtain ⟨y1, c1, c2, c3⟩ := g1 (by omega)
    obtain ⟨hF, hr⟩ := h3 2 hk
    rcases hr with hr | ⟨j, hj, hr⟩ | ⟨-, hr⟩
    · obtain ⟨y, b1, b2, b3⟩ := altN_nil (List.getElem?_eq_getElem hk) hr hF
      exact ⟨y, b1, by omega, fun f hf => (b3 f hf).up (by omega)⟩
    · rcases (by omega : j = 0 ∨ j = 1) with rfl | rfl
      · obtain ⟨z, b1, b2, b3⟩ := altN_one (List.getElem?_eq_getElem hk) hr (by omega) hF a1 a2 a3 (by omega) (by omega)
        exact ⟨z, b1, by omega, fun f hf => (b3 f hf).up (by omega)⟩
      · obtain ⟨z, b1, b2, b3⟩ := altN_one (List.getElem?_eq_getElem hk) hr (by omega) hF c1 c2 c3 (by omega) (by omega)
        exact ⟨z, b1, by omega, fun f hf => (b3 f hf).up (by omega)⟩
    · exact altN_two (List.getElem?_eq_getElem hk) hr (by omega) hF a1 (by omega) (fun f hf => (a3 f hf).up (by omega)) c1 c2 c3
  intro k hk
  rcases (by omega : k = 0 ∨ k = 1 ∨ k = 2) with rfl | rfl | rfl
  · exact ⟨y0, a1, by omega, fun f hf => (a3 f hf).up (by omega)⟩
  · obtain ⟨y, b1, b2, b3⟩ := g1 hk
    exact ⟨y, b1, by omega, fun f hf => (b3 f hf).up (by omega)⟩
  · exact g2 hk
theorem goodCs_alts {l : List Cl} (h : GoodCs l) : ∀ n, n ≤ l.length → ∃ s, altsN l n = some s ∧ s ≤ 16 * n
  | 0, _ => ⟨0, rfl, by omega⟩
  | n + 1, hn => by
    obtain ⟨s, h1, h2⟩ := goodCs_alts h n (by omega)
    obtain ⟨y, g1, g2, -⟩ := goodCs_alt h n (by omega)
    exact ⟨s + y.length, by rw [altsN, h1]; simp only; rw [g1], by omega⟩
theorem clGo_of : ∀ (l : List Cl) (i : Nat), (∀ (k : Nat) (hk : k < l.length), l[k].refs.length ≤ 8 ∧ refsP l[k].refs (i + k) = true ∧ fmE l[k].body = 0) → clGo i l = 0
  | [], _, _ => rfl
  | c :: l, i, h => by
    obtain ⟨h1, h2, h3⟩ := h 0 (by simp)
    simp only [List.getElem_cons_zero, Nat.add_zero] at h1 h2 h3
    unfold clGo
    rw [if_neg (by omega), if_neg (by rw [h2]; decide), if_neg (by rw [h3]; decide)]
    refine clGo_of l (i + 1) fun k hk => ?_
    have := h (k + 1) (by simp; omega)
    simp only [List.getElem_cons_succ] at this
    rw [show i + 1 + k = i + (k + 1) by omega]; exact this
theorem goodRefs_ok {i : Nat} {r : List Int} (h : GoodRefs i r) : r.length ≤ 2 ∧ refsP r i = true := by
  rcases h with rfl | ⟨j, hj, rfl⟩ | ⟨rfl, rfl⟩
  · exact ⟨by simp, rfl⟩
  · refine ⟨by simp, ?_⟩
    unfold refsP
    rw [show ([(j : Int)] : List Int).length = 1 from rfl, refTo_succ, refTo_zero]
    simp [refAt]; omega
  · exact ⟨by simp, by decide⟩
theorem goodCs_E {l : List Cl} (h : GoodCs l) : clE l = 0 := by
  unfold clE
  rw [if_neg (by have := h.2.1; omega)]
  refine clGo_of l 0 fun k hk => ?_
  obtain ⟨hF, hr⟩ := h.2.2 k hk
  rw [Nat.zero_add]
  exact ⟨by have := (goodRefs_ok hr).1; omega, (goodRefs_ok hr).2, goodF_E hF⟩
theorem fmsE_of {l : List Fm} (h : ∀ f ∈ l, fmE f = 0) : fmsE l = 0 := by
  induction l with
  | nil => rfl
  | cons f l ih =>
    unfold fmsE
    rw [if_neg (by rw [h f (List.mem_cons_self ..)]; decide)]
    exact ih fun g hg => h g (List.mem_cons_of_mem _ hg)
theorem topss_le {l : List Fm} (h : ∀ f ∈ l, f.tops.length ≤ 2) : (Fm.topss l).length ≤ 2 * l.length := by
  induction l with
  | nil => simp [Fm.topss]
  | cons f l ih =>
    rw [Fm.topss, List.length_append, List.length_cons]
    have := h f (List.mem_cons_self ..)
    have := ih fun g hg => h g (List.mem_cons_of_mem _ hg)
    omega
theorem goodT_E {td : List Fm} {tc : List Cl} (h : GoodT td tc) : txE td tc = 0 := by
  obtain ⟨h1, h2, h3, h4⟩ := h
  obtain ⟨s, g1, g2⟩ := goodCs_alts h4 tc.length (by omega)
  have ht := topss_le (l := td) fun f hf => (goodF_tops (h3 f hf)).2
  have hc := h4.2.1
  unfold txE
  rw [if_neg (by omega), if_neg (by rw [fmsE_of fun f hf => goodF_E (h3 f hf)]; decide), if_neg (by rw [goodCs_E h4]; decide), g1]
  simp only
  rw [if_neg (by omega)]
theorem eaTo_ok {N : Nat} {l : List Ea} (hN : N ≤ 800) (h : GoodEa N l) : eaTo (5 * (N : Int)) l l.length = true := by
  obtain ⟨h1, h2, h3⟩ := h
  unfold eaTo
  refine List.all_eq_true.2 fun k hk => ?_
  have hk := List.mem_range.1 hk
  obtain ⟨⟨j, hj, hf⟩, hd1, hd2⟩ := h2 l[k] (List.getElem_mem hk)
  unfold eaAt
  rw [List.getElem?_eq_getElem hk]
  simp only
  have hany : ((l.take k).any fun g => decide (g.file = l[k].file)) = false := by
    rw [List.any_eq_false]
    intro g hg
    obtain ⟨i, hi, rfl⟩ := List.mem_iff_getElem.1 hg
    rw [List.length_take] at hi
    rw [List.getElem_take]
    have := List.pairwise_iff_getElem.1 h3 i k (by omega) hk (by omega)
    simpa using this
  rw [hany]
  unfold inRv
  simp
  omega
/-- Acts of the generator are valid. -/
theorem goodA_valid {N : Nat} {x : Pa} (hN : N ≤ 100) (h : GoodA N x) (hn : 0 ≤ x.n ∧ x.n ≤ 1000000) : validA x = true := by
  obtain ⟨y, d, n, hy, hd1, hd2, rfl⟩ := h
  have hn' : 0 ≤ n ∧ n ≤ 1000000 := hn
  rcases hy with ⟨o, p, q, td, tc, ea, rfl, ho, hp, hq, hT, hE⟩ | hy
  · have e1 := goodT_E hT
    have e2 := eaTo_ok (by omega) hE
    have e3 := hE.1
    have hqf : ¬ q = 5 * (N : Int) ∧ -1 ≤ q ∧ q ≤ 4095 := by
      rcases hq with rfl | ⟨j, hj, rfl⟩
      · omega
      · omega
    simp [validA, dated, inRv, cleanP, bareP, ofFileV, formedP, filingP, Pa.zero, Fm.zero, Fm.op, Fm.num, Fm.ins, Fm.kids, e1, e2]
    omega
  · have cases_ok : True := trivial
    cases hy with
    | plain hk hf =>
      obtain ⟨j, hj, rfl⟩ := hf
      rcases hk with rfl | rfl | rfl | rfl <;> (simp [validA, dated, inRv, cleanP, bareP, ofFileV, formedP, Pa.zero, Fm.zero, Fm.op, Fm.num, Fm.ins, Fm.kids]; omega)
    | list hk hf hc =>
      obtain ⟨j, hj, rfl⟩ := hf
      have e1 := goodCs_E hc
      have e2 := hc.1
      rcases hk with rfl | rfl <;> (simp [validA, dated, inRv, cleanP, bareP, ofFileV, formedP, listedP, Pa.zero, Fm.zero, Fm.op, Fm.num, Fm.ins, Fm.kids, e1]; omega)
    | pay hf hp hq hu hm1 hm2 =>
      obtain ⟨j, hj, rfl⟩ := hf
      simp [validA, dated, inRv, cleanP, bareP, ofFileV, formedP, Pa.zero, Fm.zero, Fm.op, Fm.num, Fm.ins, Fm.kids]; omega
    | small hp hu =>
      simp [validA, dated, inRv, cleanP, bareP, ofFileV, formedP, Pa.zero, Fm.zero, Fm.op, Fm.num, Fm.ins, Fm.kids]; omega
    | order hk hf hu1 hu2 hu3 =>
      obtain ⟨j, hj, rfl⟩ := hf
      rcases hk with rfl | rfl | rfl | rfl <;> (simp [validA, dated, inRv, cleanP, bareP, ofFileV, formedP, laterP, Pa.zero, Fm.zero, Fm.op, Fm.num, Fm.ins, Fm.kids]; omega)
    | extend hf hu1 hu2 hm1 hm2 =>
      obtain ⟨j, hj, rfl⟩ := hf
      simp [validA, dated, inRv, cleanP, bareP, ofFileV, formedP, Pa.zero, Fm.zero, Fm.op, Fm.num, Fm.ins, Fm.kids]; omega
    | oppose hk hf hp1 hp2 =>
      obtain ⟨j, hj, rfl⟩ := hf
      rcases hk with rfl | rfl <;> (simp [validA, dated, inRv, cleanP, bareP, ofFileV, formedP, Pa.zero, Fm.zero, Fm.op, Fm.num, Fm.ins, Fm.kids]; omega)
    | decide hf hq hu =>
      obtain ⟨j, hj, rfl⟩ := hf
      rcases hu with ⟨hu, rfl⟩ | ⟨rfl, hc⟩
      · rcases hu with rfl | rfl <;> (simp [validA, dated, inRv, cleanP, bareP, ofFileV, formedP, Pa.zero, Fm.zero, Fm.op, Fm.num, Fm.ins, Fm.kids]; omega)
      · have e1 := goodCs_E hc
        have e2 := hc.1
        simp [validA, dated, inRv, cleanP, bareP, ofFileV, formedP, listedP, Pa.zero, Fm.zero, Fm.op, Fm.num, Fm.ins, Fm.kids, e1]; omega
    | @transfer f p q sn sd hf hp1 hp2 hq1 hq2 hs =>
      obtain ⟨j, hj, rfl⟩ := hf
      have e1 : shareOK sn sd = true := by
        rcases hs with ⟨rfl, rfl⟩ | ⟨rfl, rfl⟩ | ⟨rfl, rfl⟩ | ⟨rfl, rfl⟩
        · unfold shareOK; rw [okR_mk 1 1 (by omega) (by omega) (by decide) (by decide)]; rfl
        · unfold shareOK; rw [okR_mk 1 2 (by omega) (by omega) (by decide) (by decide)]; rfl
        · unfold shareOK; rw [okR_mk 1 3 (by omega) (by omega) (by decide) (by decide)]; rfl
        · unfold shareOK; rw [okR_mk 2 3 (by omega) (by omega) (by decide) (by decide)]; rfl
      simp [validA, dated, inRv, cleanP, bareP, ofFileV, formedP, partiesP, Pa.zero, Fm.zero, Fm.op, Fm.num, Fm.ins, Fm.kids, e1]; omega
    | licence hf hp1 hp2 hq1 hq2 hu1 hu2 =>
      obtain ⟨j, hj, rfl⟩ := hf
      simp [validA, dated, inRv, cleanP, bareP, ofFileV, formedP, partiesP, laterP, Pa.zero, Fm.zero, Fm.op, Fm.num, Fm.ins, Fm.kids]; omega
    | art hg =>
      have e1 := goodF_E hg
      simp [validA, dated, inRv, cleanP, bareP, ofFileV, formedP, Pa.zero, Fm.zero, Fm.op, Fm.num, Fm.ins, Fm.kids, e1]; omega
    | closure ho hu1 hu2 =>
      simp [validA, dated, inRv, cleanP, bareP, ofFileV, formedP, laterP, Pa.zero, Fm.zero, Fm.op, Fm.num, Fm.ins, Fm.kids]; omega
    | rule ho hu1 hu2 hm1 hm2 =>
      simp [validA, dated, inRv, cleanP, bareP, ofFileV, formedP, Pa.zero, Fm.zero, Fm.op, Fm.num, Fm.ins, Fm.kids]; omega
end PA
