/- The journal in plain: frames, and what is read of them. No program in sight. -/
import Derived.Test.YtdaknmcmjnbfeaaDt
namespace PA
open Go
def frameL : List UInt8 := [102, 114, 97, 109, 101]
def coreJ (n : Int) (b : List UInt8) : List UInt8 := encI n ++ encR b
def frameJ (n : Int) (b : List UInt8) : List UInt8 := encR (coreJ n b) ++ Lib.uvarint (bytesN frameL (coreJ n b))
/-- The number that stands at the beginning, as the program reads it. -/
def headJ (l : List UInt8) : Nat := (stU (.ok (l.take 10))).1
def cutJ (l : List UInt8) : List UInt8 := l.take (10 + min (headJ l) l.length)
/-- The record whose frame may be at the beginning. -/
def recJ (l : List UInt8) : List UInt8 := (stR (stI (.ok (stR (.ok (cutJ l))).1)).2).1
theorem raw_st (b r : List UInt8) (hb : b.length < 18446744073709551616) : stR (.ok (encR b ++ r)) = (b, .ok r) := by
  unfold stR; dsimp only
  rw [rawP_of b r hb]
theorem uint_st (q : Nat) (r : List UInt8) (hq : q < 18446744073709551616) : stU (.ok (Lib.uvarint q ++ r)) = (q, .ok r) := by
  unfold stU; dsimp only
  rw [uintP_of q r hq]
theorem int_st (n : Int) (r : List UInt8) (h1 : -9223372036854775808 ≤ n) (h2 : n ≤ 9223372036854775807) : (stI (.ok (encI n ++ r))).2 = .ok r := by
  unfold stI encI
  rw [uint_st _ _ (Lib.zigzag_lt h1 h2)]
theorem frameJ_length (n : Int) (b : List UInt8) : b.length + 1 ≤ (frameJ n b).length ∧ (coreJ n b).length ≤ (frameJ n b).length := by
  have := Lib.uvarint_pos (coreJ n b).length
  have hc : b.length ≤ (coreJ n b).length := by rw [coreJ, encR]; simp only [List.length_append]; omega
  rw [frameJ, encR]
  simp only [List.length_append]
  omega
theorem frameJ_le (n : Int) (b : List UInt8) (h1 : -9223372036854775808 ≤ n) (h2 : n ≤ 9223372036854775807) (hb : b.length < 1000000000) : (frameJ n b).length ≤ b.length + 40 := by
  have e1 := encI_length n h1 h2
  have e2 := Lib.uvarint_length64 (x := b.length) (by omega)
  have hc : (coreJ n b).length = (encI n).length + (Lib.uvarint b.length).length + b.length := by rw [coreJ, encR]; simp only [List.length_append]; omega
  have e3 := Lib.uvarint_length64 (x := (coreJ n b).length) (by omega)
  have e4 := Lib.uvarint_length64 (x := bytesN frameL (coreJ n b)) (sumU_lt _ _)
  rw [frameJ, encR]
  simp only [List.length_append]
  omega
/-- What the reference reads. -/
theorem ref_of (n : Int) (x t : List UInt8) (h1 : -9223372036854775808 ≤ n) (h2 : n ≤ 9223372036854775807) (hl : (frameJ n x).length < 18446744073709551616) :
    stR (.ok (frameJ n x ++ t)) = (coreJ n x, .ok (Lib.uvarint (bytesN frameL (coreJ n x)) ++ t)) ∧ (stI (.ok (coreJ n x))).2 = .ok (encR x) ∧ stR (.ok (encR x)) = (x, .ok []) := by
  have hf := frameJ_length n x
  refine ⟨?_, ?_, ?_⟩
  · rw [frameJ, List.append_assoc]; exact raw_st _ _ (by omega)
  · exact int_st n _ h1 h2
  · have := raw_st x [] (by omega)
    rwa [List.append_nil] at this
theorem rec_of (n : Int) (x t : List UInt8) (h1 : -9223372036854775808 ≤ n) (h2 : n ≤ 9223372036854775807) (hl : (frameJ n x).length < 18446744073709551616) : recJ (frameJ n x ++ t) = x := by
  obtain ⟨-, e2, e3⟩ := ref_of n x t h1 h2 hl
  have hf := frameJ_length n x
  obtain ⟨c, hc⟩ : ∃ c, c = coreJ n x := ⟨_, rfl⟩
  obtain ⟨R, hR⟩ : ∃ R, frameJ n x ++ t = Lib.uvarint c.length ++ (c ++ R) := ⟨Lib.uvarint (bytesN frameL c) ++ t, by rw [frameJ, encR, ← hc]; simp only [List.append_assoc]⟩
  rw [← hc] at e2 hf
  have hu := Lib.uvarint_length64 (x := c.length) (by omega)
  have t1 : ∀ k, 10 ≤ k → (Lib.uvarint c.length ++ (c ++ R)).take k = Lib.uvarint c.length ++ (c ++ R).take (k - (Lib.uvarint c.length).length) := fun k hk => by
    rw [List.take_append, List.take_of_length_le (by omega)]
  have hh : headJ (frameJ n x ++ t) = c.length := by
    rw [headJ, hR, t1 10 (by omega), uint_st _ _ (by omega)]
  have hcut : stR (.ok (cutJ (frameJ n x ++ t))) = (c, .ok (R.take (10 + c.length - (Lib.uvarint c.length).length - c.length))) := by
    have hm : min c.length (frameJ n x ++ t).length = c.length := Nat.min_eq_left (by rw [List.length_append]; omega)
    rw [cutJ, hh, hm, hR, t1 _ (by omega), List.take_append, List.take_of_length_le (l := c) (by omega), ← List.append_assoc]
    exact raw_st c _ (by omega)
  rw [recJ, hcut]
  dsimp only
  rw [e2, e3]
/-- The records of some bytes, from number i on, and their length. -/
def scanJ (i : Nat) (l : List UInt8) : List (List UInt8) × Nat :=
  if _h : l ≠ [] ∧ l.take (frameJ i (recJ l)).length = frameJ i (recJ l) then
    (recJ l :: (scanJ (i + 1) (l.drop (frameJ i (recJ l)).length)).1, (frameJ i (recJ l)).length + (scanJ (i + 1) (l.drop (frameJ i (recJ l)).length)).2)
  else ([], 0)
termination_by l.length
decreasing_by all_goals
  have h1 := (frameJ_length i (recJ l)).1
  have h2 : 0 < l.length := List.length_pos_iff.2 _h.1
  rw [List.length_drop]; omega
theorem scanJ_no {i : Nat} {l : List UInt8} (h : ¬ (l ≠ [] ∧ l.take (frameJ i (recJ l)).length = frameJ i (recJ l))) : scanJ i l = ([], 0) := by
  rw [scanJ, dif_neg h]
theorem scanJ_yes {i : Nat} {x t : List UInt8} (hi : i ≤ 9223372036854775807) (hl : (frameJ i x).length < 18446744073709551616) : scanJ i (frameJ i x ++ t) = (x :: (scanJ (i + 1) t).1, (frameJ i x).length + (scanJ (i + 1) t).2) := by
  have hr := rec_of i x t (by omega) (by omega) hl
  have hp := (frameJ_length i x).1
  have hne : frameJ i x ++ t ≠ [] := by intro e; have := congrArg List.length e; simp at this; rw [this.1] at hp; simp at hp
  rw [scanJ, dif_pos ⟨hne, by rw [hr]; simp⟩, hr]
  simp
/-- What either side reads is the one record whose frame is there. -/
theorem rec_uniq {n : Int} {x l : List UInt8} (h1 : -9223372036854775808 ≤ n) (h2 : n ≤ 9223372036854775807) (hl : l.length < 18446744073709551616) (h : l.take (frameJ n x).length = frameJ n x) : recJ l = x := by
  have e : l = frameJ n x ++ l.drop (frameJ n x).length := by
    conv => lhs; rw [← List.take_append_drop (frameJ n x).length l, h]
  have hle : (frameJ n x).length ≤ l.length := by rw [← h, List.length_take]; omega
  rw [e]
  exact rec_of n x _ h1 h2 (by omega)
/-- What the reference finds. -/
def okS : RSt → Bool | .ok _ => true | .error _ => false
def refX (l : List UInt8) : List UInt8 × RSt := stR (stI (.ok (stR (.ok l)).1)).2
theorem ref_uniq {n : Int} {x l : List UInt8} (h1 : -9223372036854775808 ≤ n) (h2 : n ≤ 9223372036854775807) (hl : l.length < 18446744073709551616) (h : l.take (frameJ n x).length = frameJ n x) : refX l = (x, .ok []) ∧ okS (stR (.ok l)).2 = true := by
  have e : l = frameJ n x ++ l.drop (frameJ n x).length := by
    conv => lhs; rw [← List.take_append_drop (frameJ n x).length l, h]
  have hle : (frameJ n x).length ≤ l.length := by rw [← h, List.length_take]; omega
  obtain ⟨e1, e2, e3⟩ := ref_of n x (l.drop (frameJ n x).length) h1 h2 (by omega)
  rw [e, refX, e1]
  exact ⟨by dsimp only; rw [e2, e3], rfl⟩
/-- Both sides go on, or neither. -/
theorem both {n : Int} {l : List UInt8} (h1 : -9223372036854775808 ≤ n) (h2 : n ≤ 9223372036854775807) (hl : l.length < 18446744073709551616) :
    (okS (stR (.ok l)).2 = true ∧ okS (refX l).2 = true ∧ l.take (frameJ n (refX l).1).length = frameJ n (refX l).1) ↔ l.take (frameJ n (recJ l)).length = frameJ n (recJ l) := by
  constructor
  · rintro ⟨-, -, h⟩
    rw [rec_uniq h1 h2 hl h]; exact h
  · intro h
    obtain ⟨e1, e2⟩ := ref_uniq h1 h2 hl h
    rw [e1]
    exact ⟨e2, rfl, h⟩
/-- Frames, one behind the other. -/
def framesG (f : Nat → List UInt8 → List UInt8) : Nat → List (List UInt8) → List UInt8
  | _, [] => []
  | i, x :: xs => f i x ++ framesG f (i + 1) xs
theorem framesG_snoc (f : Nat → List UInt8 → List UInt8) : ∀ (xs : List (List UInt8)) (i : Nat) (x : List UInt8), framesG f i (xs ++ [x]) = framesG f i xs ++ f (i + xs.length) x
  | [], i, x => by simp [framesG]
  | y :: xs, i, x => by
    have e : i + (y :: xs).length = i + 1 + xs.length := by rw [List.length_cons]; omega
    rw [e, List.cons_append, framesG, framesG, framesG_snoc f xs (i + 1) x, List.append_assoc]
def fJ (i : Nat) (x : List UInt8) : List UInt8 := frameJ i x
def framesJ (i : Nat) (xs : List (List UInt8)) : List UInt8 := framesG fJ i xs
theorem framesJ_nil (i : Nat) : framesJ i [] = [] := rfl
theorem framesJ_cons (i : Nat) (x : List UInt8) (xs : List (List UInt8)) : framesJ i (x :: xs) = frameJ i x ++ framesJ (i + 1) xs := by
  rw [framesJ, framesG, fJ, framesJ]
theorem framesJ_snoc (i : Nat) (xs : List (List UInt8)) (x : List UInt8) : framesJ i (xs ++ [x]) = framesJ i xs ++ fJ (i + xs.length) x := framesG_snoc fJ xs i x
theorem scanJ_frames : ∀ (xs : List (List UInt8)) (i : Nat) (t : List UInt8), i + xs.length ≤ 9223372036854775807 → (framesJ i xs).length < 18446744073709551616 →
    scanJ i (framesJ i xs ++ t) = (xs ++ (scanJ (i + xs.length) t).1, (framesJ i xs).length + (scanJ (i + xs.length) t).2)
  | [], i, t, _, _ => by rw [framesJ_nil]; simp
  | x :: xs, i, t, hi, hl => by
    rw [framesJ_cons, List.length_append] at hl
    rw [List.length_cons] at hi
    have e : i + (x :: xs).length = i + 1 + xs.length := by rw [List.length_cons]; omega
    rw [e, framesJ_cons, List.append_assoc, scanJ_yes (by omega) (by omega), scanJ_frames xs (i + 1) t (by omega) (by omega), List.length_append, List.cons_append]
    dsimp only
    rw [Nat.add_assoc (frameJ i x).length]
end PA
