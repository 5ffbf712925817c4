/- known and Check in plain: the hashes of blocks that a proof makes known, and what follows from them. No program in sight. -/
import Derived.Test.YtcmjbjlliehdiaaDoorGAuthmapChecks23
import Derived.Lib.Varint
import Derived.Lib.Zigzag
import Derived.Lib.EndianBits
import Derived.Laws.Bits64
import Derived.WalkKit
namespace Go.Proofs.YtcmjbjlliehdiaaDoor
open Go Go.RowKit PA
/-- The blocks whose hashes are known: none: it has no pairs. -/
abbrev KMap := Nat × Int → Option (Option Nat)
def kset (K : KMap) (x : Nat × Int) (v : Option Nat) : KMap := fun y => if y = x then some v else K y
structure KSt where
  i : Nat
  K : KMap
  l : List Nat
  r : List Nat
def stepK (b : Int) (s : List UInt8) (x : Nat × Int) (t : KSt) : Option KSt :=
  match s[t.i]? with
  | none => none
  | some c => if 1 < c then none else if c = 1 then
      (if b < bFirst x then (match t.r with | [] => none | h :: r => some ⟨t.i + 1, kset t.K x (some h), t.l, r⟩)
       else (match t.l with | [] => none | h :: l => some ⟨t.i + 1, kset t.K x (some h), l, t.r⟩))
    else some ⟨t.i + 1, kset t.K x none, t.l, t.r⟩
def knF (b : Int) (s : List UInt8) (t0 : KSt) (xs : List (Nat × Int)) : Option KSt := xs.foldl (fun o x => o.bind (stepK b s x)) (some t0)
theorem knF_nil (b : Int) (s : List UInt8) (t0 : KSt) : knF b s t0 [] = some t0 := rfl
theorem knF_snoc (b : Int) (s : List UInt8) (t0 : KSt) (xs : List (Nat × Int)) (x : Nat × Int) : knF b s t0 (xs ++ [x]) = (knF b s t0 xs).bind (stepK b s x) := by simp [knF, List.foldl_append]
theorem knF_none {b : Int} {s : List UInt8} : ∀ (xs : List (Nat × Int)), xs.foldl (fun o x => o.bind (stepK b s x)) none = none
  | [] => rfl
  | _ :: xs => knF_none xs
theorem knF_stop {b : Int} {s : List UInt8} {t0 : KSt} {xs : List (Nat × Int)} (ys : List (Nat × Int)) (h : knF b s t0 xs = none) : knF b s t0 (xs ++ ys) = none := by
  unfold knF at *
  rw [List.foldl_append, h]
  exact knF_none ys
/-- The pairs of the range. -/
def knE (K : KMap) (ps : List (Int × List UInt8)) : KMap := ps.foldl (fun K x => kset K (0, x.1) (some (leafN x.1 x.2))) K
theorem knE_snoc (K : KMap) (ps : List (Int × List UInt8)) (x : Int × List UInt8) : knE K (ps ++ [x]) = kset (knE K ps) (0, x.1) (some (leafN x.1 x.2)) := by simp [knE, List.foldl_append]
/-- The hash of a block, from those that are known. -/
def compP (K : KMap) : Nat → Int → Option Nat
  | 0, n => (K (0, n)).getD none
  | l + 1, n => match K (l + 1, n) with | some h => h | none => joinN (compP K l (2 * n)) (compP K l (2 * n + 1))
def wrongP (a b : Int) : List (Int × List UInt8) → Option Int → Bool
  | [], _ => false
  | x :: l, o => decide (x.1 < a) || decide (b < x.1) || (match o with | none => false | some k => decide (x.1 ≤ k)) || decide (65536 < x.2.length) || wrongP a b l (some x.1)
/-- What known says: none: the proof has another form. -/
def formP (a b : Int) (ps : List (Int × List UInt8)) (p : Prf) : Option KMap :=
  match knF b p.s ⟨0, fun _ => none, p.l, p.r⟩ (outL a b 12 0) with
  | none => none
  | some t => if t.i = p.s.length ∧ t.l = [] ∧ t.r = [] then some (knE t.K ps) else none
def checkP (root : Nat) (a b : Int) (ps : List (Int × List UInt8)) (p : Prf) : Int :=
  if ¬ (0 ≤ a ∧ a ≤ b ∧ b ≤ 4095) then 5 else if wrongP a b ps none = true then 1 else
    match formP a b ps p with
    | none => 2
    | some K => if (compP K 12 0).getD 0 = root then 0 else 10
theorem compP_lt {K : KMap} (hK : ∀ x h, K x = some (some h) → h < 18446744073709551616) : ∀ (l : Nat) (n : Int) (h : Nat), compP K l n = some h → h < 18446744073709551616
  | 0, n, h, e => by
    rw [compP] at e
    cases hk : K (0, n) with
    | none => rw [hk] at e; cases e
    | some o => rw [hk] at e; simp at e; exact hK (0, n) h (by rw [hk, e])
  | l + 1, n, h, e => by
    rw [compP] at e
    cases hk : K (l + 1, n) with
    | none => rw [hk] at e; exact joinN_lt _ _ h e
    | some o => rw [hk] at e; exact hK _ h (by rw [hk, ← e])
/-! ### proofs that are made from hashes of the outside -/
abbrev HMap := Nat × Int → Option Nat
def leftH (H : HMap) (a : Int) (xs : List (Nat × Int)) : List Nat := xs.filterMap fun x => if bLast x < a then H x else none
def rightH (H : HMap) (a : Int) (xs : List (Nat × Int)) : List Nat := xs.filterMap fun x => if bLast x < a then none else H x
def shapeH (H : HMap) (xs : List (Nat × Int)) : List UInt8 := xs.map fun x => if (H x).isSome = true then 1 else 0
def prfH (H : HMap) (a b : Int) : Prf := ⟨leftH H a (outL a b 12 0), rightH H a (outL a b 12 0), shapeH H (outL a b 12 0)⟩
def kH (H : HMap) (xs : List (Nat × Int)) : KMap := fun y => if y ∈ xs then some (H y) else none
theorem outL_sideK {a b : Int} (hab : a ≤ b) : ∀ (l : Nat) (n : Int) (x : Nat × Int), x ∈ outL a b l n → (bLast x < a ∧ ¬ b < bFirst x) ∨ (¬ bLast x < a ∧ b < bFirst x)
  | 0, n, x, h => by
    rw [outL] at h
    split at h
    · rename_i ho
      rw [List.mem_singleton.1 h]
      have : bFirst (0, n) ≤ bLast (0, n) := by unfold bFirst bLast; simp
      omega
    · cases h
  | l + 1, n, x, h => by
    rw [outL] at h
    split at h
    · rename_i ho
      rw [List.mem_singleton.1 h]
      have hp := pow_pos2 (l + 1)
      have : bFirst (l + 1, n) ≤ bLast (l + 1, n) := by
        unfold bFirst bLast
        dsimp only
        rw [Int.add_mul, Int.one_mul]
        omega
      omega
    · split at h
      · cases h
      · rcases List.mem_append.1 h with h | h
        · exact outL_sideK hab l _ x h
        · exact outL_sideK hab l _ x h
theorem knF_H {a b : Int} (H : HMap) : ∀ (xs : List (Nat × Int)) (s0 : List UInt8) (t : KSt) (l r : List Nat), (∀ x ∈ xs, (bLast x < a ∧ ¬ b < bFirst x) ∨ (¬ bLast x < a ∧ b < bFirst x)) → t.i = s0.length → t.l = leftH H a xs ++ l → t.r = rightH H a xs ++ r →
    ∃ K, knF b (s0 ++ shapeH H xs) t xs = some ⟨s0.length + xs.length, K, l, r⟩ ∧ ∀ y, K y = if y ∈ xs then some (H y) else t.K y
  | [], s0, t, l, r, _, hi, hl, hr => by
    refine ⟨t.K, ?_, fun y => by simp⟩
    rw [knF_nil]
    obtain ⟨i, K, tl, tr⟩ := t
    simp only [leftH, rightH, List.filterMap_nil, List.nil_append] at hl hr hi ⊢
    simp [hi, hl, hr]
  | x :: xs, s0, t, l, r, hs, hi, hl, hr => by
    have hx := hs x (by simp)
    have hget : (s0 ++ shapeH H (x :: xs))[t.i]? = some (if (H x).isSome = true then 1 else 0) := by
      rw [hi, List.getElem?_append_right (Nat.le_refl _), Nat.sub_self]
      simp [shapeH]
    have hsplit : s0 ++ shapeH H (x :: xs) = (s0 ++ [if (H x).isSome = true then (1 : UInt8) else 0]) ++ shapeH H xs := by simp [shapeH]
    have key : ∃ t', stepK b (s0 ++ shapeH H (x :: xs)) x t = some t' ∧ t'.i = s0.length + 1 ∧ t'.K = kset t.K x (H x) ∧ t'.l = leftH H a xs ++ l ∧ t'.r = rightH H a xs ++ r := by
      unfold stepK
      rw [hget]
      cases hH : H x with
      | none =>
        refine ⟨_, rfl, by simp [hi], by simp, ?_, ?_⟩
        · simpa [leftH, hH] using hl
        · simpa [rightH, hH] using hr
      | some h =>
        rcases hx with ⟨h1, h2⟩ | ⟨h1, h2⟩
        · have e : t.l = h :: (leftH H a xs ++ l) := by rw [hl]; simp [leftH, h1, hH]
          have e2 : t.r = rightH H a xs ++ r := by rw [hr]; simp [rightH, h1]
          refine ⟨⟨t.i + 1, kset t.K x (some h), leftH H a xs ++ l, t.r⟩, ?_, by simp [hi], rfl, rfl, e2⟩
          have d1 : ¬ (1 : UInt8) < 1 := by decide
          simp only [Option.isSome_some, if_true, if_neg d1, if_neg h2, e]
        · have e : t.r = h :: (rightH H a xs ++ r) := by rw [hr]; simp [rightH, h1, hH]
          have e2 : t.l = leftH H a xs ++ l := by rw [hl]; simp [leftH, h1]
          refine ⟨⟨t.i + 1, kset t.K x (some h), t.l, rightH H a xs ++ r⟩, ?_, by simp [hi], rfl, e2, rfl⟩
          have d1 : ¬ (1 : UInt8) < 1 := by decide
          simp only [Option.isSome_some, if_true, if_neg d1, if_pos h2, e]
    obtain ⟨t', hst, h1, h2, h3, h4⟩ := key
    obtain ⟨K, hK, hKy⟩ := knF_H H xs (s0 ++ [if (H x).isSome = true then (1 : UInt8) else 0]) t' l r (fun y hy => hs y (by simp [hy])) (by rw [h1]; simp) h3 h4
    refine ⟨K, ?_, fun y => ?_⟩
    · have : knF b (s0 ++ shapeH H (x :: xs)) t (x :: xs) = knF b (s0 ++ shapeH H (x :: xs)) t' xs := by
        unfold knF
        rw [List.foldl_cons, Option.bind_some, hst]
      rw [this, hsplit, hK]
      simp; omega
    · rw [hKy, h2]
      unfold kset
      by_cases hy : y ∈ xs
      · simp [hy]
      · by_cases hyx : y = x
        · simp [hyx]
        · simp [hy, hyx]
/-- A proof that is made from hashes of the outside has the right form. -/
theorem formP_H {a b : Int} (hab : a ≤ b) (H : HMap) (ps : List (Int × List UInt8)) : ∃ K, formP a b ps (prfH H a b) = some (knE K ps) ∧ ∀ y, K y = if y ∈ outL a b 12 0 then some (H y) else none := by
  obtain ⟨K, h1, h2⟩ := knF_H (a := a) (b := b) H (outL a b 12 0) [] ⟨0, fun _ => none, leftH H a (outL a b 12 0), rightH H a (outL a b 12 0)⟩ [] [] (fun x hx => outL_sideK hab 12 0 x hx) rfl (by simp) (by simp)
  refine ⟨K, ?_, h2⟩
  unfold formP prfH
  simp only [List.nil_append, List.length_nil, Nat.zero_add] at h1
  simp only [h1]
  rw [if_pos (by simp [shapeH])]
theorem rngP_H (M : KVs) (a b : Int) : rngP M a b = prfH (fun x => hbN M x.1 x.2) a b := by
  unfold rngP prfH leftL rightL shapeL leftH rightH shapeH leftF rightF someB
  rfl
end Go.Proofs.YtcmjbjlliehdiaaDoor
/- What the known hashes give: the hash of every block, from the hashes of the outside and the pairs of the range. Plain. -/
namespace Go.Proofs.YtcmjbjlliehdiaaDoor
open Go Go.RowKit PA
def isOut (a b : Int) (x : Nat × Int) : Prop := bLast x < a ∨ b < bFirst x
instance (a b : Int) (x : Nat × Int) : Decidable (isOut a b x) := by unfold isOut; infer_instance
def hR (H : HMap) (M : KVs) (a b : Int) : Nat → Int → Option Nat
  | 0, n => if isOut a b (0, n) then H (0, n) else (M n).map (leafN n)
  | l + 1, n => if isOut a b (l + 1, n) then H (l + 1, n) else joinN (hR H M a b l (2 * n)) (hR H M a b l (2 * n + 1))
theorem outL_isOut {a b : Int} : ∀ (l : Nat) (n : Int) (x : Nat × Int), x ∈ outL a b l n → isOut a b x
  | 0, n, x, h => by
    rw [outL] at h
    split at h
    · rename_i ho
      rw [List.mem_singleton.1 h]; exact ho
    · cases h
  | l + 1, n, x, h => by
    rw [outL] at h
    split at h
    · rename_i ho
      rw [List.mem_singleton.1 h]; exact ho
    · split at h
      · cases h
      · rcases List.mem_append.1 h with h | h
        · exact outL_isOut l _ x h
        · exact outL_isOut l _ x h
theorem half_bounds (l : Nat) (n : Int) : bFirst (l, 2 * n) = bFirst (l + 1, n) ∧ bLast (l, 2 * n) + 1 = bFirst (l, 2 * n + 1) ∧ bLast (l, 2 * n + 1) = bLast (l + 1, n) ∧ bFirst (l, 2 * n) ≤ bLast (l, 2 * n) ∧ bFirst (l, 2 * n + 1) ≤ bLast (l, 2 * n + 1) := by
  unfold bFirst bLast
  dsimp only
  have e1 : n * 2 ^ (l + 1) = 2 * n * 2 ^ l := by rw [Int.pow_succ, Int.mul_comm (2 ^ l) 2, ← Int.mul_assoc, Int.mul_comm n 2]
  have e2 : (n + 1) * 2 ^ (l + 1) = (2 * n + 1 + 1) * 2 ^ l := by rw [Int.pow_succ, Int.mul_comm (2 ^ l) 2, ← Int.mul_assoc]; congr 1; omega
  have e3 : (2 * n + 1) * 2 ^ l = 2 * n * 2 ^ l + 2 ^ l := by rw [Int.add_mul, Int.one_mul]
  have e4 : (2 * n + 1 + 1) * 2 ^ l = 2 * n * 2 ^ l + 2 ^ l + 2 ^ l := by rw [Int.add_mul, Int.one_mul, e3]
  have hp := pow_pos2 l
  rw [e1, e2, e4, e3]
  omega
theorem first_le_last (l : Nat) (n : Int) : bFirst (l, n) ≤ bLast (l, n) := by
  unfold bFirst bLast
  dsimp only
  have hp := pow_pos2 l
  rw [Int.add_mul, Int.one_mul]
  omega
theorem outL_inside {a b : Int} {l : Nat} {n : Int} (h : a ≤ bFirst (l, n) ∧ bLast (l, n) ≤ b) : outL a b l n = [] := by
  have := first_le_last l n
  exact outL_in (by omega) h
/-- The blocks of the outside in a half are those of the whole. -/
theorem outL_sub {a b : Int} {l : Nat} {n : Int} {X : List (Nat × Int)} (ho : ¬ isOut a b (l + 1, n)) (h : ∀ y ∈ outL a b (l + 1) n, y ∈ X) : (∀ y ∈ outL a b l (2 * n), y ∈ X) ∧ ∀ y ∈ outL a b l (2 * n + 1), y ∈ X := by
  obtain ⟨h1, h2, h3, h4, h5⟩ := half_bounds l n
  by_cases hi : a ≤ bFirst (l + 1, n) ∧ bLast (l + 1, n) ≤ b
  · rw [outL_inside (l := l) (n := 2 * n) (by omega), outL_inside (l := l) (n := 2 * n + 1) (by omega)]
    exact ⟨fun y hy => (by cases hy), fun y hy => (by cases hy)⟩
  · rw [outL_halves ho hi] at h
    exact ⟨fun y hy => h y (List.mem_append_left _ hy), fun y hy => h y (List.mem_append_right _ hy)⟩
theorem compP_hR {a b : Int} {K : KMap} {H : HMap} {M : KVs} (h1 : ∀ y ∈ outL a b 12 0, K y = some (H y)) (h2 : ∀ y, ¬ isOut a b y → y.1 ≠ 0 → K y = none) (h3 : ∀ n, ¬ isOut a b (0, n) → (K (0, n)).getD none = (M n).map (leafN n)) :
    ∀ (l : Nat) (n : Int), (∀ y ∈ outL a b l n, y ∈ outL a b 12 0) → compP K l n = hR H M a b l n
  | 0, n, hs => by
    rw [compP, hR]
    by_cases ho : isOut a b (0, n)
    · rw [if_pos ho, h1 _ (hs (0, n) (by rw [outL_out ho]; simp))]; rfl
    · rw [if_neg ho, h3 n ho]
  | l + 1, n, hs => by
    rw [compP, hR]
    by_cases ho : isOut a b (l + 1, n)
    · rw [if_pos ho, h1 _ (hs (l + 1, n) (by rw [outL_out ho]; simp))]
    · rw [if_neg ho, h2 _ ho (by simp)]
      obtain ⟨s1, s2⟩ := outL_sub ho hs
      dsimp only
      rw [compP_hR h1 h2 h3 l _ s1, compP_hR h1 h2 h3 l _ s2]
theorem knE_at : ∀ (ps : PrL) (K : KMap) (y : Nat × Int), AscP ps → knE K ps y = if y.1 = 0 then (match lkP ps y.2 with | some v => some (some (leafN y.2 v)) | none => K y) else K y
  | [], K, y, _ => by simp [knE, lkP]
  | x :: ps, K, y, h => by
    have e : knE K (x :: ps) = knE (kset K (0, x.1) (some (leafN x.1 x.2))) ps := rfl
    rw [e, knE_at ps _ y h.cons.2]
    obtain ⟨l, n⟩ := y
    by_cases hl : l = 0
    · subst hl
      simp only [if_true, lkP]
      by_cases hn : n = x.1
      · subst hn
        have : lkP ps x.1 = none := lkP_none fun z hz => by have := h.cons.1 z hz; omega
        rw [this, if_pos rfl]
        simp [kset]
      · rw [if_neg hn]
        cases lkP ps n with
        | some v => rfl
        | none => simp [kset, hn]
    · simp only [if_neg hl]
      unfold kset
      rw [if_neg (fun e => hl (Prod.mk.inj e).1)]
/-- Check of well-formed proofs in plain: the root is that of the outside's hashes and of the pairs. -/
theorem checkP_H {a b : Int} (hab : 0 ≤ a ∧ a ≤ b ∧ b ≤ 4095) (H : HMap) (ps : PrL) (ha : AscP ps) (hw : wrongP a b ps none = false) (root : Nat) :
    checkP root a b ps (prfH H a b) = if (hR H (lkP ps) a b 12 0).getD 0 = root then 0 else 10 := by
  obtain ⟨K, hf, hK⟩ := formP_H hab.2.1 H ps
  unfold checkP
  rw [if_neg (by simpa using hab), if_neg (by rw [hw]; simp), hf]
  dsimp only
  have hc : compP (knE K ps) 12 0 = hR H (lkP ps) a b 12 0 := by
    refine compP_hR (fun y hy => ?_) (fun y ho hn => ?_) (fun n ho => ?_) 12 0 (fun y hy => hy)
    · rw [knE_at ps K y ha, hK y, if_pos hy]
      split
      · rename_i h0
        have hno : lkP ps y.2 = none := by
          cases hl : lkP ps y.2 with
          | none => rfl
          | some v =>
            exfalso
            have hmem : ∃ x ∈ ps, x.1 = y.2 := by
              have : ∀ (ps : PrL), lkP ps y.2 = some v → ∃ x ∈ ps, x.1 = y.2 := by
                intro ps
                induction ps with
                | nil => intro h; cases h
                | cons x ps ih =>
                  intro h
                  rw [lkP] at h
                  by_cases e : y.2 = x.1
                  · exact ⟨x, by simp, e.symm⟩
                  · rw [if_neg e] at h
                    obtain ⟨z, hz, e2⟩ := ih h
                    exact ⟨z, by simp [hz], e2⟩
              exact this ps hl
            obtain ⟨x, hx, hxe⟩ := hmem
            have hrg : a ≤ x.1 ∧ x.1 ≤ b := by
              have : ∀ (ps : PrL) (o : Option Int), wrongP a b ps o = false → ∀ x ∈ ps, a ≤ x.1 ∧ x.1 ≤ b := by
                intro ps
                induction ps with
                | nil => intro o _ x hx; cases hx
                | cons z ps ih =>
                  intro o h x hx
                  unfold wrongP at h
                  simp only [Bool.or_eq_false_iff, decide_eq_false_iff_not] at h
                  rcases List.mem_cons.1 hx with rfl | hx
                  · have := h.1.1.1; omega
                  · exact ih _ h.2 x hx
              exact this ps none hw x hx
            have ho := outL_isOut 12 0 y hy
            obtain ⟨yl, yn⟩ := y
            simp only at h0 hxe
            subst h0
            unfold isOut bLast bFirst at ho
            simp at ho
            omega
        rw [hno]
      · rfl
    · rw [knE_at ps K y ha, if_neg hn, hK y, if_neg (fun hm => ho (outL_isOut 12 0 y hm))]
    · rw [knE_at ps K (0, n) ha, if_pos rfl, hK (0, n), if_neg (fun hm => ho (outL_isOut 12 0 _ hm))]
      cases lkP ps n <;> rfl
  rw [hc]
theorem hR_hb {a b : Int} {M : KVs} {P : KVs} (hP : ∀ k, a ≤ k → k ≤ b → P k = M k) : ∀ (l : Nat) (n : Int), hR (fun x => hbN M x.1 x.2) P a b l n = hbN M l n
  | 0, n => by
    rw [hR]
    split
    · rfl
    · rename_i ho
      rw [hbN, hP n (by unfold isOut bLast bFirst at ho; simp at ho; omega) (by unfold isOut bLast bFirst at ho; simp at ho; omega)]
  | l + 1, n => by
    rw [hR]
    split
    · rfl
    · rw [hR_hb hP l, hR_hb hP l, hbN]
/-! ### the pairs of a range -/
theorem lk_pairsL (M : KVs) (a b : Int) : ∀ (ks : List Int), ks.Pairwise (· < ·) → ∀ k, lkP (pairsL M a b ks) k = if k ∈ ks ∧ a ≤ k ∧ k ≤ b then some ((M k).getD []) else none
  | [], _, k => by simp [pairsL, lkP]
  | x :: ks, h, k => by
    have hc := List.pairwise_cons.1 h
    have ih := lk_pairsL M a b ks hc.2 k
    by_cases hx : inR a b x = true
    · have e : pairsL M a b (x :: ks) = (x, (M x).getD []) :: pairsL M a b ks := by simp [pairsL, hx]
      rw [e, lkP]
      by_cases hk : k = x
      · subst hk
        have : a ≤ k ∧ k ≤ b := by unfold inR at hx; simpa using hx
        simp [this]
      · rw [if_neg hk, ih]
        simp [hk]
    · have e : pairsL M a b (x :: ks) = pairsL M a b ks := by simp [pairsL, hx]
      rw [e, ih]
      by_cases hk : k = x
      · subst hk
        have h1 : ¬ (a ≤ k ∧ k ≤ b) := by unfold inR at hx; simpa using hx
        have h2 : k ∉ ks := fun hm => by have := hc.1 k hm; omega
        simp [h1]
      · simp [hk]
theorem pairsL_asc (M : KVs) (a b : Int) (ks : List Int) (h : ks.Pairwise (· < ·)) : AscP (pairsL M a b ks) := by
  unfold AscP pairsL
  rw [List.map_map]
  rw [show ((fun x : Int × List UInt8 => x.1) ∘ fun k => (k, (M k).getD [])) = id from rfl, List.map_id]
  exact h.filter _
theorem wrong_asc {a b : Int} : ∀ {ps : PrL} {o : Option Int}, AscP ps → (∀ x ∈ ps, (a ≤ x.1 ∧ x.1 ≤ b) ∧ x.2.length ≤ 65536 ∧ ∀ k, o = some k → k < x.1) → wrongP a b ps o = false
  | [], _, _, _ => rfl
  | x :: ps, o, ha, h => by
    have hx := h x (by simp)
    unfold wrongP
    have h1 : decide (x.1 < a) = false := decide_eq_false (by omega)
    have h2 : decide (b < x.1) = false := decide_eq_false (by omega)
    have h4 : decide (65536 < x.2.length) = false := decide_eq_false (by omega)
    have h5 := wrong_asc (a := a) (b := b) (o := some x.1) ha.cons.2 (fun y hy => ⟨(h y (by simp [hy])).1, (h y (by simp [hy])).2.1, fun k hk => by
      cases hk
      exact ha.cons.1 y hy⟩)
    cases o with
    | none => rw [h1, h2, h4, h5]; rfl
    | some k =>
      have h3 : decide (x.1 ≤ k) = false := decide_eq_false (by have := hx.2.2 k rfl; omega)
      rw [h1, h2, h4, h5]
      simp only [h3]
      rfl
theorem pairsL_mem {M : KVs} {a b : Int} {ks : List Int} {x : Int × List UInt8} (h : x ∈ pairsL M a b ks) : x.1 ∈ ks ∧ (a ≤ x.1 ∧ x.1 ≤ b) ∧ x.2 = (M x.1).getD [] := by
  unfold pairsL at h
  obtain ⟨k, hk, rfl⟩ := List.mem_map.1 h
  obtain ⟨h1, h2⟩ := List.mem_filter.1 hk
  exact ⟨h1, by unfold inR at h2; simpa using h2, rfl⟩
/-- (Complete.) Range's pairs and proof are accepted under the root. -/
theorem check_range {M : KVs} {a b : Int} (hab : 0 ≤ a ∧ a ≤ b ∧ b ≤ 4095) {ks : List Int} (hk : AKeys M ks) (hl : ∀ k v, M k = some v → v.length ≤ 65536) : checkP (rootN M) a b (pairsL M a b ks) (rngP M a b) = 0 := by
  have ha := pairsL_asc M a b ks hk.1
  have hw : wrongP a b (pairsL M a b ks) none = false := wrong_asc ha fun x hx => by
    obtain ⟨h1, h2, h3⟩ := pairsL_mem hx
    refine ⟨h2, ?_, fun k e => by cases e⟩
    rw [h3]
    cases hm : M x.1 with
    | none => simp
    | some v => exact hl _ v hm
  rw [rngP_H, checkP_H hab _ _ ha hw, hR_hb (fun k h1 h2 => ?_)]
  · rw [if_pos]; rfl
  · rw [lk_pairsL M a b ks hk.1]
    by_cases hm : k ∈ ks
    · rw [if_pos ⟨hm, h1, h2⟩]
      have := (hk.2 k).1 hm
      cases hx : M k with
      | none => rw [hx] at this; cases this
      | some v => rfl
    · rw [if_neg (fun h => hm h.1)]
      cases hx : M k with
      | none => rfl
      | some v => exact absurd ((hk.2 k).2 (by rw [hx]; rfl)) hm
end Go.Proofs.YtcmjbjlliehdiaaDoor
/- The wire's numbers in plain. No program in sight. -/
namespace PA
open Go RowKit
theorem bits_xor_comm (k : IntKind) (x y : Int) : bits .xor k x y = bits .xor k y x := by
  show IntKind.wrap k ((BitVec.ofInt k.bits x ^^^ BitVec.ofInt k.bits y).toNat : Int) = IntKind.wrap k ((BitVec.ofInt k.bits y ^^^ BitVec.ofInt k.bits x).toNat : Int)
  rw [BitVec.xor_comm]
theorem zz_val (n : Int) (h1 : -9223372036854775808 ≤ n) (h2 : n ≤ 9223372036854775807) :
    bits .xor .u64 (IntKind.u64.wrap (IntKind.u64.wrap n * 2)) (IntKind.u64.wrap (n / 9223372036854775808)) = (Lib.zigzag n : Nat) := by
  by_cases h : 0 ≤ n
  · have e1 : IntKind.u64.wrap (n / 9223372036854775808) = ((0 : Nat) : Int) := by rw [IntKind.wrap_u64]; omega
    have e2 : IntKind.u64.wrap (IntKind.u64.wrap n * 2) = ((2 * n).toNat : Nat) := by rw [IntKind.wrap_u64, IntKind.wrap_u64]; omega
    rw [e1, e2, bits_xor_u64_nat _ _ (by omega) (by decide), Nat.xor_zero]
    unfold Lib.zigzag; rw [if_pos h]
  · have e1 : IntKind.u64.wrap (n / 9223372036854775808) = IntKind.u64.max := by
      rw [IntKind.wrap_u64, show IntKind.u64.max = 18446744073709551615 by decide]; omega
    rw [e1, bits_xor_comm]
    exact Lib.zigzag_neg h1 (by omega)
/-- The number with a zigzag form. -/
def unz (z : Nat) : Int := if z % 2 = 0 then (z / 2 : Nat) else -((z / 2 : Nat) : Int) - 1
theorem unz_val (z : Nat) (h : z < 18446744073709551616) : bits BinOp.xor .i64 ((z : Int) / 2) (wrap64 (-wrap64 (bits BinOp.and .u64 (z : Int) 1))) = unz z := by
  rw [Lib.u64_and1 _ (by omega) (by omega)]
  have e0 : (z : Int) / 2 = ((z / 2 : Nat) : Int) := by omega
  unfold unz
  by_cases h0 : z % 2 = 0
  · have e1 : (z : Int) % 2 = 0 := by omega
    rw [e1, if_pos h0, e0]
    have e2 : wrap64 (-wrap64 0) = 0 := by simp [wrap64]
    rw [e2]
    show IntKind.i64.wrap ((BitVec.ofInt 64 ((z / 2 : Nat) : Int) ^^^ BitVec.ofInt 64 0).toNat : Int) = _
    have e3 : BitVec.ofInt 64 ((z / 2 : Nat) : Int) ^^^ BitVec.ofInt 64 0 = BitVec.ofInt 64 ((z / 2 : Nat) : Int) := by simp
    rw [e3, BitVec.ofInt_natCast, BitVec.toNat_ofNat, IntKind.wrap_i64]
    omega
  · have e1 : (z : Int) % 2 = 1 := by omega
    rw [e1, if_neg h0, e0, bits_xor_comm]
    have e2 : wrap64 (-wrap64 1) = -1 := by simp [wrap64]
    rw [e2]
    exact Lib.i64_not _ (by omega)
def encI (n : Int) : List UInt8 := Lib.uvarint (Lib.zigzag n)
def encR (b : List UInt8) : List UInt8 := Lib.uvarint b.length ++ b
/-- Reading a number: the first byte has index i. -/
def uintGo (i n : Nat) : List UInt8 → Except Int (Nat × List UInt8)
  | [] => .error 3
  | c :: l => if (i = 9 ∧ 1 < c.toNat) ∨ (0 < i ∧ c.toNat = 0) then .error 2 else if c.toNat < 128 then .ok (n + c.toNat * 128 ^ i, l) else uintGo (i + 1) (n + (c.toNat - 128) * 128 ^ i) l
def uintP (l : List UInt8) : Except Int (Nat × List UInt8) := uintGo 0 0 l
def intP (l : List UInt8) : Except Int (Int × List UInt8) := match uintP l with
  | .error e => .error e
  | .ok (z, l) => .ok (unz z, l)
def rawP (l : List UInt8) : Except Int (List UInt8 × List UInt8) := match uintP l with
  | .error e => .error e
  | .ok (n, l) => if l.length < n then .error 3 else .ok (l.take n, l.drop n)
theorem encI_length (n : Int) (h1 : -9223372036854775808 ≤ n) (h2 : n ≤ 9223372036854775807) : (encI n).length ≤ 10 := Lib.uvarint_length64 (Lib.zigzag_lt h1 h2)
/-- A reader: the bytes that are left, or the error. -/
abbrev RSt := Except Int (List UInt8)
def stU : RSt → Nat × RSt
  | .error e => (0, .error e)
  | .ok l => match uintP l with | .error e => (0, .error e) | .ok (n, l') => (n, .ok l')
def stI (st : RSt) : Int × RSt := (unz (stU st).1, (stU st).2)
def stR : RSt → List UInt8 × RSt
  | .error e => ([], .error e)
  | .ok l => match rawP l with | .error e => ([], .error e) | .ok (b, l') => (b, .ok l')
def stE : RSt → Int
  | .error e => e
  | .ok l => if l = [] then 0 else 2
theorem pow128 (i : Nat) : (128 : Nat) ^ i = 2 ^ (7 * i) := by rw [Nat.pow_mul]
theorem andNot128 (c : UInt8) : bits .andNot .u8 (c.toNat : Int) 128 = ((c.toNat % 128 : Nat) : Int) := by
  have h : ∀ n : Fin 256, bits .andNot .u8 (n.val : Int) 128 = ((n.val % 128 : Nat) : Int) := by decide +kernel
  exact h ⟨c.toNat, c.toNat_lt⟩
theorem or_var (n m i : Nat) (hn : n < 128 ^ i) (hm : m < 128) (hi : i ≤ 9) (h9 : i = 9 → m ≤ 1) :
    bits .or .u64 (n : Int) (IntKind.u64.wrap (IntKind.u64.wrap (m : Int) * 2 ^ (7 * i))) = ((n + m * 128 ^ i : Nat) : Int) ∧ n + m * 128 ^ i < 18446744073709551616 := by
  have e' : ((2 : Int) ^ (7 * i)) = ((128 ^ i : Nat) : Int) := by rw [pow128]; push_cast; rfl
  have q9 : (128 : Nat) ^ 9 = 9223372036854775808 := by decide
  have q8 : (128 : Nat) ^ 8 = 72057594037927936 := by decide
  have hp0 : (128 : Nat) ^ i ≤ 9223372036854775808 := q9 ▸ Nat.pow_le_pow_right (by decide) hi
  have hb : m * 128 ^ i + 128 ^ i ≤ 18446744073709551616 := by
    by_cases h : i = 9
    · subst h
      have := h9 rfl
      rw [q9]; omega
    · have hp : (128 : Nat) ^ i ≤ 72057594037927936 := q8 ▸ Nat.pow_le_pow_right (by decide) (by omega)
      have : m * 128 ^ i ≤ 127 * 72057594037927936 := Nat.mul_le_mul (by omega) hp
      omega
  rw [e']
  generalize hp : (128 : Nat) ^ i = p at *
  have e2 : IntKind.u64.wrap (m : Int) = (m : Int) := wraps_u64 _ (by omega) (by omega)
  have e3 : IntKind.u64.wrap (((m : Nat) : Int) * (p : Int)) = ((m * p : Nat) : Int) := by
    rw [← Int.natCast_mul]; exact wraps_u64 _ (by omega) (by have : m * p < 2 ^ 64 := by omega
                                                             exact_mod_cast this)
  rw [e2, e3]
  have hp2 : (2 : Int) ^ (7 * i) = (p : Int) := e'
  have g1 : (n : Int) < (2 : Int) ^ (7 * i) := by rw [hp2]; exact_mod_cast hn
  have g2 : n < 2 ^ 64 := by omega
  have g3 : ((m * p : Nat) : Int) % (2 : Int) ^ (7 * i) = 0 := by rw [hp2]; push_cast; exact Int.mul_emod_left _ _
  have g4 : m * p < 2 ^ 64 := by omega
  refine ⟨?_, by omega⟩
  rw [bits_join_low .u64 64 (by decide) wraps_u64 (7 * i) _ _ (by omega) g1 (by exact_mod_cast g2) (by omega) g3 (by exact_mod_cast g4)]
  exact (Int.natCast_add _ _).symm
theorem uint_step (n c i : Nat) (hn : n < 128 ^ i) (hc : 128 ≤ c) (hc2 : c < 256) : n + (c - 128) * 128 ^ i < 128 ^ (i + 1) := by
  rw [Nat.pow_succ]
  have : (c - 128) * 128 ^ i ≤ 127 * 128 ^ i := Nat.mul_le_mul_right _ (by omega)
  omega
theorem uintGo_lt : ∀ (l : List UInt8) (i n : Nat), i ≤ 9 → n < 128 ^ i → ∀ m l', uintGo i n l = .ok (m, l') → m < 18446744073709551616 ∧ ∃ k, l' = l.drop k
  | [], i, n, _, _, m, l', h => by simp [uintGo] at h
  | c :: l, i, n, hi, hn, m, l', h => by
    have hc := c.toNat_lt
    unfold uintGo at h
    split at h
    · cases h
    · rename_i hbad
      split at h
      · rename_i hs
        cases h
        exact ⟨(or_var n c.toNat i hn hs hi (fun e => by rw [e] at hbad; omega)).2, 1, rfl⟩
      · rename_i hs
        by_cases h9 : i = 9
        · exfalso; rw [h9] at hbad; omega
        · obtain ⟨h1, k, h2⟩ := uintGo_lt l (i + 1) _ (by omega) (uint_step n c.toNat i hn (by omega) (by omega)) m l' h
          exact ⟨h1, k + 1, by rw [h2]; rfl⟩
theorem stU_lt (st : RSt) : (stU st).1 < 18446744073709551616 := by
  cases st with
  | error e => exact (by decide : 0 < 18446744073709551616)
  | ok l =>
    unfold stU
    dsimp only
    cases h : uintP l with
    | error e => exact (by decide : 0 < 18446744073709551616)
    | ok x => obtain ⟨m, l'⟩ := x; exact (uintGo_lt l 0 0 (by omega) (by decide) m l' h).1
end PA
