/- Package title in plain: shares, transfers, the walk through sorted acts. No program in sight. -/
import Derived.Test.YtfapiopnjllnnaaGreatDoorGTitleChain9
namespace PA
open Go
abbrev Shs := Int → Option Rt
def shareP (S : Shs) (p : Int) : Rt := (S p).getD ⟨0, 1⟩
def setSh (S : Shs) (p : Int) (r : Rt) : Shs := fun x => if x = p then some r else S x
def moveP (S : Shs) (x : Ac) : Shs × Bool :=
  if (subR (shareP S x.p) x.sh).2 ≠ 0 ∨ (subR (shareP S x.p) x.sh).1.n < 0 then (S, false)
  else if (addR (shareP S x.q) x.sh).2 ≠ 0 then (S, false)
  else (setSh (setSh S x.p (subR (shareP S x.p) x.sh).1) x.q (addR (shareP S x.q) x.sh).1, true)
def ofFileB (k : Int) : Bool := !(decide (k = 5) || decide (k = 19) || decide (k = 20) || decide (k = 21))
def countsB (file fday day : Int) (x : Ac) : Bool := ofFileB x.k && (decide (x.f = file) && (decide (fday ≤ x.d) && (decide (x.d ≤ day) && (decide (x.k = 16) || decide (x.k = 17)))))
def stepT (S : Shs) (x : Ac) : Shs × Bool := if x.k = 16 then moveP S x else (S, decide (0 < (shareP S x.p).n))
/-- The walk: ev is told each act that counts, with its index and whether it has effect. -/
def walkT {σ : Type} (file fday day : Int) (ev : σ → Nat → Ac → Bool → σ) : Nat → List Ac → Shs → σ → Shs × σ
  | _, [], S, s => (S, s)
  | i, x :: l, S, s => if countsB file fday day x = true then walkT file fday day ev (i + 1) l (stepT S x).1 (ev s i x (stepT S x).2) else walkT file fday day ev (i + 1) l S s
def isFiling (file : Int) (x : Ac) : Bool := decide (x.k = 0) && decide (x.f = file)
def filedT (file : Int) (S : List Ac) : Option Ac := S.find? (isFiling file)
/-- The error of a file, a day and sorted acts. -/
def titleErr (file day : Int) (S : List Ac) : Int :=
  if file < 0 ∨ 4095 < file ∨ day < 0 ∨ 131072 < day then 5 else match filedT file S with
  | none => 7
  | some f => if day < f.d then 7 else 0
def first1 (p : Int) : Shs := setSh (fun _ => none) p ⟨1, 1⟩
/-- All shares are in lowest terms, and not below 0. -/
def ShOk (S : Shs) : Prop := ∀ p r, S p = some r → okR r = true ∧ 0 ≤ r.n
theorem okR_one : okR ⟨1, 1⟩ = true := by decide
theorem okR_zero : okR ⟨0, 1⟩ = true := by decide
theorem ShOk.first (p : Int) : ShOk (first1 p) := by
  intro q r h
  unfold first1 setSh at h
  split at h
  · cases h; exact ⟨okR_one, by decide⟩
  · cases h
theorem ShOk.share {S : Shs} (h : ShOk S) (p : Int) : okR (shareP S p) = true ∧ 0 ≤ (shareP S p).n := by
  unfold shareP
  cases e : S p with
  | none => exact ⟨okR_zero, by decide⟩
  | some r => exact h p r e
theorem okR_nil {r : Rt} (h : okR r = true) (h0 : r.n = 0) : r = ⟨0, 1⟩ := by
  have h1 := (okR_spec h).1
  cases r with
  | mk n d =>
    simp only at h0
    subst h0
    have hg := newR_den 0 d (by have := h1.d1; simp at this; omega) h
    simp at hg
    have := h1.d1
    simp at this
    have : d = 1 := by omega
    rw [this]
theorem moveP_ok {S : Shs} (h : ShOk S) (x : Ac) (hx : 0 ≤ x.sn) : ShOk (moveP S x).1 := by
  unfold moveP
  split
  · exact h
  · rename_i h1
    split
    · exact h
    · rename_i h2
      have a1 : (subR (shareP S x.p) x.sh).2 = 0 := by
        rcases Int.lt_trichotomy (subR (shareP S x.p) x.sh).2 0 with e | e | e
        · exact absurd (.inl (by omega)) h1
        · exact e
        · exact absurd (.inl (by omega)) h1
      have a2 : 0 ≤ (subR (shareP S x.p) x.sh).1.n := by
        rcases Int.lt_or_le (subR (shareP S x.p) x.sh).1.n 0 with e | e
        · exact absurd (.inr e) h1
        · exact e
      have a3 : (addR (shareP S x.q) x.sh).2 = 0 := by
        rcases Int.lt_trichotomy (addR (shareP S x.q) x.sh).2 0 with e | e | e
        · exact absurd (by omega) h2
        · exact e
        · exact absurd (by omega) h2
      intro p r hr
      replace hr : (if p = x.q then some (addR (shareP S x.q) x.sh).1 else if p = x.p then some (subR (shareP S x.p) x.sh).1 else S p) = some r := hr
      split at hr
      · cases hr
        have e : addR (shareP S x.q) x.sh = ((addR (shareP S x.q) x.sh).1, 0) := Prod.ext rfl a3
        have hv := addR_valid e
        refine ⟨hv.1, ?_⟩
        have hq := h.share x.q
        obtain ⟨r0, hr0⟩ : ∃ r0, r0 = (addR (shareP S x.q) x.sh).1 := ⟨_, rfl⟩
        rw [← hr0] at e ⊢
        have e2 : newR ((shareP S x.q).n * x.sh.d + x.sh.n * (shareP S x.q).d) ((shareP S x.q).d * x.sh.d) = (r0, 0) := by
          rw [← e]; unfold addR; rw [if_pos ⟨hv.2.1, hv.2.2⟩]
        have d1 := (okR_spec hv.2.1).1.d1
        have d2 := (okR_spec hv.2.2).1.d1
        have hn := (newR_ok e2 (Int.mul_pos (by omega) (by omega)))
        have hnum : 0 ≤ (shareP S x.q).n * x.sh.d + x.sh.n * (shareP S x.q).d := Int.add_nonneg (Int.mul_nonneg hq.2 (by omega)) (Int.mul_nonneg hx (by omega))
        rcases Int.lt_trichotomy ((shareP S x.q).n * x.sh.d + x.sh.n * (shareP S x.q).d) 0 with z | z | z
        · omega
        · have := hn.2.1.2 z; omega
        · have := hn.2.2.2 z; omega
      · split at hr
        · cases hr
          have e : subR (shareP S x.p) x.sh = ((subR (shareP S x.p) x.sh).1, 0) := Prod.ext rfl a1
          exact ⟨(addR_valid e).1, a2⟩
        · exact h p r hr
theorem stepT_ok {S : Shs} (h : ShOk S) (x : Ac) (hx : 0 ≤ x.sn) : ShOk (stepT S x).1 := by
  unfold stepT
  split
  · exact moveP_ok h x hx
  · exact h
theorem walkT_ok {σ : Type} (file fday day : Int) (ev : σ → Nat → Ac → Bool → σ) : ∀ (l : List Ac) (i : Nat) (S : Shs) (s : σ), ShOk S → (∀ x ∈ l, 0 ≤ x.sn) → ShOk (walkT file fday day ev i l S s).1
  | [], _, _, _, h, _ => h
  | x :: l, i, S, s, h, hl => by
    unfold walkT
    split
    · exact walkT_ok file fday day ev l _ _ _ (stepT_ok h x (hl x (by simp))) fun y hy => hl y (by simp [hy])
    · exact walkT_ok file fday day ev l _ _ _ h fun y hy => hl y (by simp [hy])
/-- The shares do not depend on what is told. -/
theorem walkT_fst {σ τ : Type} (file fday day : Int) (ev : σ → Nat → Ac → Bool → σ) (ev' : τ → Nat → Ac → Bool → τ) : ∀ (l : List Ac) (i j : Nat) (S : Shs) (s : σ) (t : τ), (walkT file fday day ev i l S s).1 = (walkT file fday day ev' j l S t).1
  | [], _, _, _, _, _ => rfl
  | x :: l, i, j, S, s, t => by
    unfold walkT
    split
    · exact walkT_fst file fday day ev ev' l _ _ _ _ _
    · exact walkT_fst file fday day ev ev' l _ _ _ _ _
theorem walkT_append {σ : Type} (file fday day : Int) (ev : σ → Nat → Ac → Bool → σ) : ∀ (l m : List Ac) (i : Nat) (S : Shs) (s : σ), walkT file fday day ev i (l ++ m) S s = walkT file fday day ev (i + l.length) m (walkT file fday day ev i l S s).1 (walkT file fday day ev i l S s).2
  | [], _, _, _, _ => rfl
  | x :: l, m, i, S, s => by
    rw [List.cons_append, walkT]
    conv => rhs; rw [walkT]
    rw [List.length_cons, show i + (l.length + 1) = (i + 1) + l.length by omega]
    split
    · exact walkT_append file fday day ev l m _ _ _
    · exact walkT_append file fday day ev l m _ _ _
end PA
