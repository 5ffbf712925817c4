/- The hash in plain: words, mix, sums. No program in sight. -/
import Derived.Lib.Varint
import Derived.Lib.Zigzag
import Derived.Lib.EndianBits
import Derived.Laws.Bits64
import Derived.WalkKit
namespace PA
open Go
def leN : List UInt8 → Nat
  | [] => 0
  | b :: l => b.toNat + 256 * leN l
theorem leN_lt : ∀ l : List UInt8, leN l < 256 ^ l.length
  | [] => by simp [leN]
  | b :: l => by
    have := leN_lt l
    have hb := b.toNat_lt
    simp only [leN, List.length_cons, Nat.pow_succ]
    omega
theorem leN_snoc : ∀ (l : List UInt8) (c : UInt8), leN (l ++ [c]) = leN l + c.toNat * 256 ^ l.length
  | [], c => by simp [leN]
  | b :: l, c => by
    simp only [List.cons_append, leN, leN_snoc l c, List.length_cons, Nat.pow_succ, Nat.mul_add]
    rw [show c.toNat * (256 ^ l.length * 256) = 256 * (c.toNat * 256 ^ l.length) by
      rw [Nat.mul_comm (256 ^ l.length) 256, ← Nat.mul_assoc, Nat.mul_comm c.toNat 256, Nat.mul_assoc]]
    omega
theorem leN_lt8 (l : List UInt8) (h : l.length ≤ 8) : leN l < 18446744073709551616 :=
  Nat.lt_of_lt_of_le (leN_lt l) (Nat.le_trans (Nat.pow_le_pow_right (by decide) h) (by decide))
/-- The k-th word. -/
def wordN (l : List UInt8) (k : Nat) : Nat := leN ((l.drop (8 * k)).take 8)
def wordsN (l : List UInt8) : List Nat := (List.range ((l.length + 7) / 8)).map (wordN l)
theorem wordN_lt (l : List UInt8) (k : Nat) : wordN l k < 18446744073709551616 := leN_lt8 _ (by simp; omega)
theorem wordsN_lt (l : List UInt8) : ∀ x ∈ wordsN l, x < 18446744073709551616 := by
  intro x hx
  obtain ⟨k, _, rfl⟩ := List.mem_map.1 hx
  exact wordN_lt l k
theorem wordsN_length (l : List UInt8) : (wordsN l).length = (l.length + 7) / 8 := by simp [wordsN]
theorem wordsN_take (l : List UInt8) (k : Nat) (hk : k ≤ (l.length + 7) / 8) : (List.range k).map (wordN l) = (wordsN l).take k := by
  rw [wordsN, ← List.map_take, List.take_range, Nat.min_eq_left hk]
def mulN : Nat := 11400714819323198485
def mixN (s x : Nat) : Nat :=
  let m := ((s ^^^ x) * mulN) % 18446744073709551616
  m ^^^ (m / 4294967296)
theorem xor_lt64 (a b : Nat) (ha : a < 18446744073709551616) (hb : b < 18446744073709551616) : a ^^^ b < 18446744073709551616 := Nat.xor_lt_two_pow (n := 64) ha hb
theorem mixN_lt (s x : Nat) : mixN s x < 18446744073709551616 := by
  unfold mixN
  exact xor_lt64 _ _ (Nat.mod_lt _ (by decide)) (Nat.lt_of_le_of_lt (Nat.div_le_self _ _) (Nat.mod_lt _ (by decide)))
theorem mix_val (s x : Nat) (hs : s < 18446744073709551616) (hx : x < 18446744073709551616) :
    bits .xor .u64 (IntKind.u64.wrap (bits .xor .u64 (s : Int) (x : Int) * 11400714819323198485)) (IntKind.u64.wrap (bits .xor .u64 (s : Int) (x : Int) * 11400714819323198485) / 4294967296) = (mixN s x : Nat) := by
  rw [bits_xor_u64_nat s x hs hx, IntKind.wrap_u64]
  have e : ((s ^^^ x : Nat) : Int) * 11400714819323198485 % 18446744073709551616 = (((s ^^^ x) * mulN % 18446744073709551616 : Nat) : Int) := by
    unfold mulN; omega
  rw [e]
  have e2 : (((s ^^^ x) * mulN % 18446744073709551616 : Nat) : Int) / 4294967296 = (((s ^^^ x) * mulN % 18446744073709551616 / 4294967296 : Nat) : Int) := by omega
  rw [e2, bits_xor_u64_nat _ _ (Nat.mod_lt _ (by decide)) (Nat.lt_of_le_of_lt (Nat.div_le_self _ _) (Nat.mod_lt _ (by decide)))]
  rfl
def u64N (n : Int) : Nat := (n % 18446744073709551616).toNat
theorem u64N_lt (n : Int) : u64N n < 18446744073709551616 := by unfold u64N; omega
theorem u64N_wrap (n : Int) : IntKind.u64.wrap n = (u64N n : Nat) := by rw [IntKind.wrap_u64]; unfold u64N; omega
/-- The sum of words. -/
def sumU (label : List UInt8) (l : List Nat) : Nat := mixN (l.foldl mixN (mixN (mixN ((wordsN label).foldl mixN 0) label.length) l.length)) 0
def sumN (label : List UInt8) (l : List Int) : Nat := sumU label (l.map u64N)
def bytesN (label b : List UInt8) : Nat := sumU label (wordsN b ++ [b.length])
theorem foldl_mix_lt : ∀ (l : List Nat) (s : Nat), s < 18446744073709551616 → l.foldl mixN s < 18446744073709551616
  | [], s, h => h
  | x :: l, s, _ => foldl_mix_lt l _ (mixN_lt s x)
theorem sumU_lt (label : List UInt8) (l : List Nat) : sumU label l < 18446744073709551616 := mixN_lt _ _
theorem or_word (l : List UInt8) (c : UInt8) (d : Nat) (hl : l.length = d) (hd : d < 8) :
    bits .or .u64 (leN l : Nat) (IntKind.u64.wrap (IntKind.u64.wrap (c.toNat : Int) * 2 ^ (8 * d))) = (leN (l ++ [c]) : Nat) := by
  subst hl
  have h1 := leN_lt l
  have hc := c.toNat_lt
  rw [leN_snoc]
  have e : (256 : Nat) ^ l.length = 2 ^ (8 * l.length) := by rw [Nat.pow_mul]
  have e' : ((2 : Int) ^ (8 * l.length)) = ((2 ^ (8 * l.length) : Nat) : Int) := by push_cast; rfl
  rw [e] at h1 ⊢
  rw [e']
  have hpw : 256 * 2 ^ (8 * l.length) ≤ 2 ^ 64 := by
    rw [show (256 : Nat) = 2 ^ 8 from rfl, ← Nat.pow_add]; exact Nat.pow_le_pow_right (by decide) (by omega)
  generalize hp : 2 ^ (8 * l.length) = p at *
  have h2 : c.toNat * p < 2 ^ 64 := Nat.lt_of_lt_of_le (Nat.mul_lt_mul_of_pos_right hc (by omega)) hpw
  have e2 : IntKind.u64.wrap (c.toNat : Int) = (c.toNat : Int) := wraps_u64 _ (by omega) (by omega)
  have e3 : IntKind.u64.wrap (((c.toNat : Nat) : Int) * (p : Int)) = ((c.toNat * p : Nat) : Int) := by
    rw [← Int.natCast_mul]; exact wraps_u64 _ (by omega) (by exact_mod_cast h2)
  rw [e2, e3]
  have hp2 : (2 : Int) ^ (8 * l.length) = (p : Int) := by rw [← hp]; push_cast; rfl
  have g1 : ((leN l : Nat) : Int) < (2 : Int) ^ (8 * l.length) := by rw [hp2]; exact_mod_cast h1
  have g2 : leN l < 2 ^ 64 := by omega
  have g3 : ((c.toNat * p : Nat) : Int) % (2 : Int) ^ (8 * l.length) = 0 := by rw [hp2]; push_cast; exact Int.mul_emod_left _ _
  rw [bits_join_low .u64 64 (by decide) wraps_u64 (8 * l.length) _ _ (by omega) g1 (by exact_mod_cast g2) (by omega) g3 (by exact_mod_cast h2)]
  exact (Int.natCast_add _ _).symm
theorem take_snoc_at (l : List UInt8) (i d : Nat) (h : i + d < l.length) : (l.drop i).take (d + 1) = (l.drop i).take d ++ [l[i + d]] := by
  rw [List.take_succ_eq_append_getElem (by simp; omega)]
  simp
theorem u64N_i64 (x : Nat) (h : x < 18446744073709551616) : u64N (RowKit.wrap64 (x : Int)) = x := by
  unfold u64N RowKit.wrap64
  omega
theorem map_u64 : ∀ l : List Nat, (∀ x ∈ l, x < 18446744073709551616) → (l.map fun x : Nat => RowKit.wrap64 (x : Int)).map u64N = l
  | [], _ => rfl
  | x :: l, h => by
    rw [List.map_cons, List.map_cons, u64N_i64 x (h x (by simp)), map_u64 l fun y hy => h y (by simp [hy])]
theorem sum_bytes (label bs : List UInt8) (hb : bs.length ≤ 140737488351240) : sumN label ((wordsN bs).map (fun x : Nat => RowKit.wrap64 (x : Int)) ++ [(bs.length : Int)]) = bytesN label bs := by
  have h : u64N (bs.length : Int) = bs.length := by unfold u64N; omega
  rw [sumN, bytesN, List.map_append, map_u64 _ (wordsN_lt bs), List.map_cons, List.map_nil, h]
/-- Numbers of 64 bits. -/
abbrev U64 := { x : Nat // x < 18446744073709551616 }
def wordU (l : List UInt8) (k : Nat) : U64 := ⟨wordN l k, wordN_lt l k⟩
def wordsU (l : List UInt8) : List U64 := (List.range ((l.length + 7) / 8)).map (wordU l)
theorem wordsU_val (l : List UInt8) : (wordsU l).map (·.1) = wordsN l := by simp [wordsU, wordsN, wordU]
theorem wordsU_take (l : List UInt8) (k : Nat) (hk : k ≤ (l.length + 7) / 8) : (List.range k).map (wordU l) = (wordsU l).take k := by
  rw [wordsU, ← List.map_take, List.take_range, Nat.min_eq_left hk]
theorem wordsU_length (l : List UInt8) : (wordsU l).length = (l.length + 7) / 8 := by simp [wordsU]
end PA
