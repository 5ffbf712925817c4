/- The wire's numbers in plain. No program in sight. -/
import Derived.Lib.Varint
import Derived.Lib.Zigzag
import Derived.Lib.EndianBits
import Derived.Laws.Bits64
import Derived.WalkKit
namespace PA
open Go RowKit
theorem bits_xor_comm (k : IntKind) (x y : Int) : bits .xor k x y = bits .xor k y x := by
  show IntKind.wrap k ((BitVec.ofInt k.bits x ^^^ BitVec.ofInt k.bits y).toNat : Int) = IntKind.wrap k ((BitVec.ofInt k.bits y ^^^ BitVec.ofInt k.bits x).toNat : Int)
  rw [BitVec.xor_comm]
theorem zz_val (n : Int) (h1 : -9223372036854775808 ≤ n) (h2 : n ≤ 9223372036854775807) :
    bits .xor .u64 (IntKind.u64.wrap (IntKind.u64.wrap n * 2)) (IntKind.u64.wrap (n / 9223372036854775808)) = (Lib.zigzag n : Nat) := by
  by_cases h : 0 ≤ n
  · have e1 : IntKind.u64.wrap (n / 9223372036854775808) = ((0 : Nat) : Int) := by rw [IntKind.wrap_u64]; omega
    have e2 : IntKind.u64.wrap (IntKind.u64.wrap n * 2) = ((2 * n).toNat : Nat) := by rw [IntKind.wrap_u64, IntKind.wrap_u64]; omega
    rw [e1, e2, bits_xor_u64_nat _ _ (by omega) (by decide), Nat.xor_zero]
    unfold Lib.zigzag; rw [if_pos h]
  · have e1 : IntKind.u64.wrap (n / 9223372036854775808) = IntKind.u64.max := by
      rw [IntKind.wrap_u64, show IntKind.u64.max = 18446744073709551615 by decide]; omega
    rw [e1, bits_xor_comm]
    exact Lib.zigzag_neg h1 (by omega)
/-- The number with a zigzag form. -/
def unz (z : Nat) : Int := if z % 2 = 0 then (z / 2 : Nat) else -((z / 2 : Nat) : Int) - 1
theorem unz_val (z : Nat) (h : z < 18446744073709551616) : bits BinOp.xor .i64 ((z : Int) / 2) (wrap64 (-wrap64 (bits BinOp.and .u64 (z : Int) 1))) = unz z := by
  rw [Lib.u64_and1 _ (by omega) (by omega)]
  have e0 : (z : Int) / 2 = ((z / 2 : Nat) : Int) := by omega
  unfold unz
  by_cases h0 : z % 2 = 0
  · have e1 : (z : Int) % 2 = 0 := by omega
    rw [e1, if_pos h0, e0]
    have e2 : wrap64 (-wrap64 0) = 0 := by simp [wrap64]
    rw [e2]
    show IntKind.i64.wrap ((BitVec.ofInt 64 ((z / 2 : Nat) : Int) ^^^ BitVec.ofInt 64 0).toNat : Int) = _
    have e3 : BitVec.ofInt 64 ((z / 2 : Nat) : Int) ^^^ BitVec.ofInt 64 0 = BitVec.ofInt 64 ((z / 2 : Nat) : Int) := by simp
    rw [e3, BitVec.ofInt_natCast, BitVec.toNat_ofNat, IntKind.wrap_i64]
    omega
  · have e1 : (z : Int) % 2 = 1 := by omega
    rw [e1, if_neg h0, e0, bits_xor_comm]
    have e2 : wrap64 (-wrap64 1) = -1 := by simp [wrap64]
    rw [e2]
    exact Lib.i64_not _ (by omega)
def encI (n : Int) : List UInt8 := Lib.uvarint (Lib.zigzag n)
def encR (b : List UInt8) : List UInt8 := Lib.uvarint b.length ++ b
/-- Reading a number: the first byte has index i. -/
def uintGo (i n : Nat) : List UInt8 → Except Int (Nat × List UInt8)
  | [] => .error 3
  | c :: l => if (i = 9 ∧ 1 < c.toNat) ∨ (0 < i ∧ c.toNat = 0) then .error 2 else if c.toNat < 128 then .ok (n + c.toNat * 128 ^ i, l) else uintGo (i + 1) (n + (c.toNat - 128) * 128 ^ i) l
def uintP (l : List UInt8) : Except Int (Nat × List UInt8) := uintGo 0 0 l
def intP (l : List UInt8) : Except Int (Int × List UInt8) := match uintP l with
  | .error e => .error e
  | .ok (z, l) => .ok (unz z, l)
def rawP (l : List UInt8) : Except Int (List UInt8 × List UInt8) := match uintP l with
  | .error e => .error e
  | .ok (n, l) => if l.length < n then .error 3 else .ok (l.take n, l.drop n)
theorem encI_length (n : Int) (h1 : -9223372036854775808 ≤ n) (h2 : n ≤ 9223372036854775807) : (encI n).length ≤ 10 := Lib.uvarint_length64 (Lib.zigzag_lt h1 h2)
/-- A reader: the bytes that are left, or the error. -/
abbrev RSt := Except Int (List UInt8)
def stU : RSt → Nat × RSt
  | .error e => (0, .error e)
  | .ok l => match uintP l with | .error e => (0, .error e) | .ok (n, l') => (n, .ok l')
def stI (st : RSt) : Int × RSt := (unz (stU st).1, (stU st).2)
def stR : RSt → List UInt8 × RSt
  | .error e => ([], .error e)
  | .ok l => match rawP l with | .error e => ([], .error e) | .ok (b, l') => (b, .ok l')
def stE : RSt → Int
  | .error e => e
  | .ok l => if l = [] then 0 else 2
theorem pow128 (i : Nat) : (128 : Nat) ^ i = 2 ^ (7 * i) := by rw [Nat.pow_mul]
theorem andNot128 (c : UInt8) : bits .andNot .u8 (c.toNat : Int) 128 = ((c.toNat % 128 : Nat) : Int) := by
  have h : ∀ n : Fin 256, bits .andNot .u8 (n.val : Int) 128 = ((n.val % 128 : Nat) : Int) := by decide +kernel
  exact h ⟨c.toNat, c.toNat_lt⟩
theorem or_var (n m i : Nat) (hn : n < 128 ^ i) (hm : m < 128) (hi : i ≤ 9) (h9 : i = 9 → m ≤ 1) :
    bits .or .u64 (n : Int) (IntKind.u64.wrap (IntKind.u64.wrap (m : Int) * 2 ^ (7 * i))) = ((n + m * 128 ^ i : Nat) : Int) ∧ n + m * 128 ^ i < 18446744073709551616 := by
  have e' : ((2 : Int) ^ (7 * i)) = ((128 ^ i : Nat) : Int) := by rw [pow128]; push_cast; rfl
  have q9 : (128 : Nat) ^ 9 = 9223372036854775808 := by decide
  have q8 : (128 : Nat) ^ 8 = 72057594037927936 := by decide
  have hp0 : (128 : Nat) ^ i ≤ 9223372036854775808 := q9 ▸ Nat.pow_le_pow_right (by decide) hi
  have hb : m * 128 ^ i + 128 ^ i ≤ 18446744073709551616 := by
    by_cases h : i = 9
    · subst h
      have := h9 rfl
      rw [q9]; omega
    · have hp : (128 : Nat) ^ i ≤ 72057594037927936 := q8 ▸ Nat.pow_le_pow_right (by decide) (by omega)
      have : m * 128 ^ i ≤ 127 * 72057594037927936 := Nat.mul_le_mul (by omega) hp
      omega
  rw [e']
  generalize hp : (128 : Nat) ^ i = p at *
  have e2 : IntKind.u64.wrap (m : Int) = (m : Int) := wraps_u64 _ (by omega) (by omega)
  have e3 : IntKind.u64.wrap (((m : Nat) : Int) * (p : Int)) = ((m * p : Nat) : Int) := by
    rw [← Int.natCast_mul]; exact wraps_u64 _ (by omega) (by have : m * p < 2 ^ 64 := by omega
                                                             exact_mod_cast this)
  rw [e2, e3]
  have hp2 : (2 : Int) ^ (7 * i) = (p : Int) := e'
  have g1 : (n : Int) < (2 : Int) ^ (7 * i) := by rw [hp2]; exact_mod_cast hn
  have g2 : n < 2 ^ 64 := by omega
  have g3 : ((m * p : Nat) : Int) % (2 : Int) ^ (7 * i) = 0 := by rw [hp2]; push_cast; exact Int.mul_emod_left _ _
  have g4 : m * p < 2 ^ 64 := by omega
  refine ⟨?_, by omega⟩
  rw [bits_join_low .u64 64 (by decide) wraps_u64 (7 * i) _ _ (by omega) g1 (by exact_mod_cast g2) (by omega) g3 (by exact_mod_cast g4)]
  exact (Int.natCast_add _ _).symm
theorem uint_step (n c i : Nat) (hn : n < 128 ^ i) (hc : 128 ≤ c) (hc2 : c < 256) : n + (c - 128) * 128 ^ i < 128 ^ (i + 1) := by
  rw [Nat.pow_succ]
  have : (c - 128) * 128 ^ i ≤ 127 * 128 ^ i := Nat.mul_le_mul_right _ (by omega)
  omega
theorem uintGo_lt : ∀ (l : List UInt8) (i n : Nat), i ≤ 9 → n < 128 ^ i → ∀ m l', uintGo i n l = .ok (m, l') → m < 18446744073709551616 ∧ ∃ k, l' = l.drop k
  | [], i, n, _, _, m, l', h => by simp [uintGo] at h
  | c :: l, i, n, hi, hn, m, l', h => by
    have hc := c.toNat_lt
    unfold uintGo at h
    split at h
    · cases h
    · rename_i hbad
      split at h
      · rename_i hs
        cases h
        exact ⟨(or_var n c.toNat i hn hs hi (fun e => by rw [e] at hbad; omega)).2, 1, rfl⟩
      · rename_i hs
        by_cases h9 : i = 9
        · exfalso; rw [h9] at hbad; omega
        · obtain ⟨h1, k, h2⟩ := uintGo_lt l (i + 1) _ (by omega) (uint_step n c.toNat i hn (by omega) (by omega)) m l' h
          exact ⟨h1, k + 1, by rw [h2]; rfl⟩
theorem stU_lt (st : RSt) : (stU st).1 < 18446744073709551616 := by
  cases st with
  | error e => exact (by decide : 0 < 18446744073709551616)
  | ok l =>
    unfold stU
    dsimp only
    cases h : uintP l with
    | error e => exact (by decide : 0 < 18446744073709551616)
    | ok x => obtain ⟨m, l'⟩ := x; exact (uintGo_lt l 0 0 (by omega) (by decide) m l' h).1
end PA
