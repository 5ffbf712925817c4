/- The reference's hash of bytes. -/
import Derived.Test.YtdaknmcmjnbfeaaGreatH4
import Derived.Lib.Varint
import Derived.Lib.Zigzag
import Derived.Lib.EndianBits
import Derived.Laws.Bits64
import Derived.WalkKit
namespace Go.Proofs.YtdaknmcmjnbfeaaGreat
open Go.RowKit PA
set_option maxRecDepth 100000 in
set_option maxHeartbeats 2000000 in
theorem rhbytes_spec {W w : World} {A : Assn} {I : Mem} (s : ByteArray) (v : Value) (bs : List UInt8) (h : Sat W w (sep (kn I) A)) (hv : rBytes.rel I [v] bs) (hs : s.size ≤ 1073741824) (hb : bs.length ≤ 140737488351240) :
    Calls Tryz.prog 56 #[.string s, v] w fun e w' => e = .returned (.int .u64 (bytesN s.data.toList bs : Nat)) ∧ Sat W w' (sep (kn I) A) := by
  obtain ⟨ad, cp, rfl, _, _⟩ := bytes_rel.1 hv
  have HV := Lib.hid hv
  have HS := Lib.hid hs
  have HB := Lib.hid hb
  obtain ⟨n0, hn0⟩ : ∃ n0, n0 = bs.length := ⟨_, rfl⟩
  rw [← hn0] at HV ⊢
  have HN := Lib.hid hn0
  clear hv hs hb hn0
  go_enter Tryz.func56, Tryz.ntmps56
  go_wp2_with fail
  refine (rwords_spec _ bs h HV.out HB.out).mono ?_
  rintro e w2 ⟨a, c, rfl, hS2⟩
  obtain ⟨m, hm⟩ : ∃ m, m = (wordsN bs).length := ⟨_, rfl⟩
  have hmI : (m : Int) ≤ 17592186043906 := by rw [hm, wordsN_length]; have := HB.out; omega
  rw [← hm] at hS2 ⊢
  obtain ⟨K, hle, hK, hS3⟩ := hS2.osl_settle.learn
  have HK := Lib.hid hK
  have HM := Lib.hid hm
  have HLE := Lib.hid hle
  clear h hS2 hK hm hle
  go_wp2_with fail
  go_loopw [6, 7] (fun lv kv wr => ∃ k : Nat, k ≤ m ∧ kv = .int .i64 k ∧ ∃ a2 c2, lv = .slice a2 k c2 ∧ Sat W wr (sep (osl 3 1 a2 k c2 (((wordsN bs).map fun x : Nat => iv (wrap64 (x : Int))).take k)) (sep (kn K) A))) (fun _ kv _ => m - (intOf kv).toNat)
  case atStart => exact ⟨0, Nat.zero_le _, rfl, none, 0, rfl, hS3.osl_nil _ _⟩
  case round =>
    clear hS3
    obtain ⟨k, hk, rfl, a2, c2, rfl, hS⟩ := hrel
    by_cases hkm : k < m
    · have hkw : k < (wordsN bs).length := by rw [← HM.out]; exact hkm
      obtain ⟨b, o, rfl, hcc⟩ := cells_ext HK.out (fun e => by have := congrArg List.length e; simp at this; rw [this] at hkw; simp at hkw)
      obtain ⟨x, hx⟩ : ∃ x, x = (wordsN bs)[k] := ⟨_, rfl⟩
      have hc := hcc _ hS.p1.ext k (uv x) (by rw [List.getElem?_map, List.getElem?_eq_getElem hkw, hx]; rfl)
      unfold uv at hc
      obtain ⟨z, hz⟩ : ∃ z, wrap64 (x : Int) = z := ⟨_, rfl⟩
      have HX := Lib.hid hx
      have hkI : (k : Int) < m := by omega
      have hkb : k ≤ 17592186043906 := by omega
      have HKB := Lib.hid hkb
      have hB := hS.alloc0 (.cells #[.int .i64 z] 3)
      clear hx hcc hkb hS
      go_wp2_with (at_builtin; (refine wpl_append_osl rfl (.tmp 16) (.tmp 22) 22 rfl 3 1 8 (.int .i64 0) Tryz.underlying22 infoI rfl rfl hB rfl [.int .i64 z] rfl (by simp) (by intro b hb; cases hb; exact new_src _ [_] _) (by simp [Value.oneCell']) (by have := HKB.out; omega) (by have := HKB.out; unfold maxLen; omega) ?_))
      intro a3 c3 w3 hS4
      go_wp2_with fail
      go_roundw
      case rel =>
        refine ⟨k + 1, by omega, by go_num, a3, c3, rfl, ?_⟩
        have e1 : ((wordsN bs).map (fun x : Nat => iv (wrap64 (x : Int)))).take (k + 1) = ((wordsN bs).map (fun x : Nat => iv (wrap64 (x : Int)))).take k ++ [.int .i64 z] := by
          rw [List.take_succ_eq_append_getElem (by rw [List.length_map]; exact hkw), List.getElem_map, ← HX.out, hz]; rfl
        rw [e1]; exact hS4
      case measure => simp [intOf]; omega
    · obtain rfl : k = m := by omega
      have hkI : ¬ (k : Int) < k := by omega
      have hkb : k ≤ 17592186043906 := by omega
      have HKB := Lib.hid hkb
      have hB := hS.alloc0 (.cells #[.int .i64 (n0 : Int)] 3)
      clear hkb hS
      go_wp2_with (at_builtin; (refine wpl_append_osl rfl (.tmp 25) (.tmp 28) 22 rfl 3 1 8 (.int .i64 0) Tryz.underlying22 infoI rfl rfl hB rfl [.int .i64 (n0 : Int)] rfl (by simp) (by intro b hb; cases hb; exact new_src _ [_] _) (by simp [Value.oneCell']) (by have := HKB.out; omega) (by have := HKB.out; unfold maxLen; omega) ?_))
      intro a3 c3 w3 hS4
      obtain ⟨ns, hns⟩ : ∃ ns : List Int, ns = (wordsN bs).map (fun x : Nat => wrap64 (x : Int)) ++ [(n0 : Int)] := ⟨_, rfl⟩
      have hnl : ns.length = k + 1 := by rw [hns, List.length_append, List.length_map, HM.out]; rfl
      have e1 : ((wordsN bs).map (fun x : Nat => iv (wrap64 (x : Int)))).take k ++ [.int .i64 (n0 : Int)] = ns.map iv := by
        rw [hns, HM.out, List.take_of_length_le (by rw [List.length_map]; exact Nat.le_refl _), List.map_append, List.map_map]; rfl
      rw [e1] at hS4
      obtain ⟨L, hle2, hL, hS5⟩ := hS4.osl_settle.learn
      have hsv : sumN s.data.toList ns = bytesN s.data.toList bs := by rw [hns, HN.out]; exact sum_bytes _ _ HB.out
      have hsum := rsum_spec s a3 c3 ns hS5 HS.out (by have := HKB.out; omega) hL
      rw [hnl, hsv] at hsum
      obtain ⟨r, hr⟩ : ∃ r, r = bytesN s.data.toList bs := ⟨_, rfl⟩
      rw [← hr] at hsum
      have HR := Lib.hid hr
      clear hr
      have HSUM := Lib.hid hsum
      have hle3 := Lib.hid (Mem.le_trans HLE.out hle2)
      clear hsum hsv hns hnl e1 hS4 hS5 hL hB hle2
      go_wp2_with fail
      refine HSUM.out.mono ?_
      rintro e w4 ⟨rfl, hS6⟩
      go_wp2_with fail
      go_ret
      exact ⟨by rw [← HR.out]; rfl, hS6.kn_mono hle3.out⟩
end Go.Proofs.YtdaknmcmjnbfeaaGreat
/- Package wire: the writer. -/
namespace Go.Proofs.YtdaknmcmjnbfeaaGreat
open Go.RowKit PA
theorem infoU8w : (Tryz.prog.info? 5).map (fun i => (i.zero, i.size, i.bytes)) = some (some (.int .u8 0), 1, 1) := by kernel_rfl
def isWr (p : Nat) (bs : List UInt8) : Assn := ex fun a : Option Addr => ex fun n : Nat => ex fun c : Nat => sep (blk p (.cells #[.slice a n c] 75 (0, 0))) (osl 5 1 a n c (bs.map bv))
theorem isWr_open {W w : World} {A : Assn} {p : Nat} {bs : List UInt8} (h : Sat W w (sep (isWr p bs) A)) : ∃ a n c, n = bs.length ∧ Sat W w (sep (blk p (.cells #[.slice a n c] 75 (0, 0))) (sep (osl 5 1 a n c (bs.map bv)) A)) := by
  simp only [isWr, ex_sep, Sat.ex, sep_assoc] at h
  obtain ⟨a, n, c, h⟩ := h
  have := h.p1.osl_len.1
  exact ⟨a, n, c, by simpa using this.symm, h⟩
theorem isWr_mk {W w : World} {A : Assn} {p : Nat} {bs : List UInt8} {a : Option Addr} {n c : Nat} (h : Sat W w (sep (blk p (.cells #[.slice a n c] 75 (0, 0))) (sep (osl 5 1 a n c (bs.map bv)) A))) : Sat W w (sep (isWr p bs) A) := by
  simp only [isWr, ex_sep, Sat.ex, sep_assoc]
  exact ⟨a, n, c, h⟩
set_option maxHeartbeats 1000000 in
theorem wuint_spec {W w : World} {A : Assn} (p : Nat) (bs : List UInt8) (x : Nat) (hx : x < 18446744073709551616) (h : Sat W w (sep (isWr p bs) A)) (hb : bs.length ≤ 1073741824) :
    Calls Tryz.prog 41 #[.pointer (some ⟨p, 0, none⟩), .int .u64 (x : Nat)] w fun e w' => e = .returned (.tuple #[]) ∧ Sat W w' (sep (isWr p (bs ++ Lib.uvarint x)) A) := by
  have HX := Lib.hid hx
  have HB := Lib.hid hb
  clear hx hb
  go_enter Tryz.func41, Tryz.ntmps41
  go_wp2_with fail
  go_loopw [1] (fun nv wr => ∃ (y : Nat) (pre : List UInt8), nv = .int .u64 (y : Nat) ∧ Hid (y < 18446744073709551616 ∧ pre ++ Lib.uvarint y = Lib.uvarint x) ∧ Sat W wr (sep (isWr p (bs ++ pre)) A)) (fun nv _ => (intOf nv).toNat)
  case atStart => exact ⟨x, [], rfl, Lib.hid ⟨HX.out, rfl⟩, by simpa using h⟩
  case round =>
    clear h
    obtain ⟨y, pre, rfl, HY, hS⟩ := hrel
    have hpl : pre.length ≤ 10 := by
      have := congrArg List.length HY.out.2
      have := Lib.uvarint_length64 HX.out
      simp at *; omega
    obtain ⟨a, n, c, hn, h1⟩ := isWr_open hS
    have hnb : n ≤ 1073741834 := by rw [hn, List.length_append]; have := HB.out; omega
    have HN := Lib.hid hnb
    have c1 : wr.cell? ⟨p, 0, none⟩ = some (.slice a n c) := h1.cell 0
    obtain ⟨vs, hvs⟩ : ∃ vs, vs = (bs ++ pre).map bv := ⟨_, rfl⟩
    rw [← hvs] at h1
    have HVS := Lib.hid hvs
    have hS' := h1.p1
    clear hn hpl hnb hS hvs
    by_cases hy : 128 ≤ y
    · have hyI : (128 : Int) ≤ (y : Int) := by omega
      obtain ⟨z, hz⟩ : ∃ z : UInt8, z = (y % 128 + 128).toUInt8 := ⟨_, rfl⟩
      have hor : bits BinOp.or IntKind.u8 ((y : Int) % 256) 128 = (z.toNat : Int) := by
        rw [Lib.u8_or128_any _ (by omega) (by omega), hz]
        simp; omega
      have hB := (hS'.alloc0 (.cells #[.int .u8 (z.toNat : Int)] 5))
      have HZ := Lib.hid hz
      clear hz h1 hS'
      go_wp2_with (at_builtin; (refine wpl_append_osl rfl (.tmp 12) (.tmp 16) 39 rfl 5 1 1 (.int .u8 0) Tryz.underlying39 infoU8w rfl rfl hB rfl [.int .u8 (z.toNat : Int)] rfl (by simp) (by intro b hb; cases hb; exact new_src _ [_] _) (by simp [Value.oneCell']) (by have := HN.out; omega) (by have := HN.out; unfold maxLen; omega) ?_))
      intro a2 c2 w2 h2
      have h3 := h2.p1
      have c2' : w2.cell? ⟨p, 0, none⟩ = some (.slice a n c) := h3.cell 0
      have f2' : w2.frozen? ⟨p, 0, none⟩ = false := h3.unfrozen 0
      have h4 : Sat W (w2.setCell ⟨p, 0, none⟩ (.slice a2 (n + 1) c2)) (sep (blk p (.cells #[.slice a2 (n + 1) c2] 75 (0, 0))) (sep (osl 5 1 a2 (n + 1) c2 (vs ++ [.int .u8 (z.toNat : Int)])) A)) := h3.setCell 0 _
      clear hB h2 h3 c1
      go_wp2_with fail
      go_roundw
      case rel =>
        refine ⟨y / 128, pre ++ [z], by go_num, Lib.hid ⟨by have := HY.out.1; omega, ?_⟩, isWr_mk (a := a2) (n := n + 1) (c := c2) ?_⟩
        · rw [List.append_assoc, ← HY.out.2, Lib.uvarint_big hy, ← HZ.out]; rfl
        · rw [← List.append_assoc, List.map_append, ← HVS.out]; exact h4
      case measure => simp [intOf]; omega
    · have hyB : decide ((128 : Int) ≤ (y : Int)) = false := by simp; omega
      have HY128 := Lib.hid hy
      obtain ⟨z, hz⟩ : ∃ z : UInt8, z = y.toUInt8 := ⟨_, rfl⟩
      have hzy : z.toNat = y := by
        rw [hz]; simp; omega
      have hor : ((y : Int) % 256) = (z.toNat : Int) := by omega
      have hB := (hS'.alloc0 (.cells #[.int .u8 (z.toNat : Int)] 5))
      have HZ := Lib.hid hz
      clear hz h1 hS' hzy hy
      go_wp2_with (at_builtin; (refine wpl_append_osl rfl (.tmp 24) (.tmp 27) 39 rfl 5 1 1 (.int .u8 0) Tryz.underlying39 infoU8w rfl rfl hB rfl [.int .u8 (z.toNat : Int)] rfl (by simp) (by intro b hb; cases hb; exact new_src _ [_] _) (by simp [Value.oneCell']) (by have := HN.out; omega) (by have := HN.out; unfold maxLen; omega) ?_))
      intro a2 c2 w2 h2
      have h3 := h2.p1
      have c2' : w2.cell? ⟨p, 0, none⟩ = some (.slice a n c) := h3.cell 0
      have f2' : w2.frozen? ⟨p, 0, none⟩ = false := h3.unfrozen 0
      have h4 : Sat W (w2.setCell ⟨p, 0, none⟩ (.slice a2 (n + 1) c2)) (sep (blk p (.cells #[.slice a2 (n + 1) c2] 75 (0, 0))) (sep (osl 5 1 a2 (n + 1) c2 (vs ++ [.int .u8 (z.toNat : Int)])) A)) := h3.setCell 0 _
      clear hB h2 h3 c1
      go_wp2_with fail
      go_end0
      refine ⟨rfl, isWr_mk (a := a2) (n := n + 1) (c := c2) ?_⟩
      rw [← HY.out.2, Lib.uvarint_small (by have := HY128.out; omega), ← HZ.out, ← List.append_assoc, List.map_append, ← HVS.out, List.map_cons, List.map_nil, bv]; exact h4
end Go.Proofs.YtdaknmcmjnbfeaaGreat
/- The wire's numbers in plain. No program in sight. -/
namespace PA
open Go RowKit
theorem bits_xor_comm (k : IntKind) (x y : Int) : bits .xor k x y = bits .xor k y x := by
  show IntKind.wrap k ((BitVec.ofInt k.bits x ^^^ BitVec.ofInt k.bits y).toNat : Int) = IntKind.wrap k ((BitVec.ofInt k.bits y ^^^ BitVec.ofInt k.bits x).toNat : Int)
  rw [BitVec.xor_comm]
theorem zz_val (n : Int) (h1 : -9223372036854775808 ≤ n) (h2 : n ≤ 9223372036854775807) :
    bits .xor .u64 (IntKind.u64.wrap (IntKind.u64.wrap n * 2)) (IntKind.u64.wrap (n / 9223372036854775808)) = (Lib.zigzag n : Nat) := by
  by_cases h : 0 ≤ n
  · have e1 : IntKind.u64.wrap (n / 9223372036854775808) = ((0 : Nat) : Int) := by rw [IntKind.wrap_u64]; omega
    have e2 : IntKind.u64.wrap (IntKind.u64.wrap n * 2) = ((2 * n).toNat : Nat) := by rw [IntKind.wrap_u64, IntKind.wrap_u64]; omega
    rw [e1, e2, bits_xor_u64_nat _ _ (by omega) (by decide), Nat.xor_zero]
    unfold Lib.zigzag; rw [if_pos h]
  · have e1 : IntKind.u64.wrap (n / 9223372036854775808) = IntKind.u64.max := by
      rw [IntKind.wrap_u64, show IntKind.u64.max = 18446744073709551615 by decide]; omega
    rw [e1, bits_xor_comm]
    exact Lib.zigzag_neg h1 (by omega)
/-- The number with a zigzag form. -/
def unz (z : Nat) : Int := if z % 2 = 0 then (z / 2 : Nat) else -((z / 2 : Nat) : Int) - 1
theorem unz_val (z : Nat) (h : z < 18446744073709551616) : bits BinOp.xor .i64 ((z : Int) / 2) (wrap64 (-wrap64 (bits BinOp.and .u64 (z : Int) 1))) = unz z := by
  rw [Lib.u64_and1 _ (by omega) (by omega)]
  have e0 : (z : Int) / 2 = ((z / 2 : Nat) : Int) := by omega
  unfold unz
  by_cases h0 : z % 2 = 0
  · have e1 : (z : Int) % 2 = 0 := by omega
    rw [e1, if_pos h0, e0]
    have e2 : wrap64 (-wrap64 0) = 0 := by simp [wrap64]
    rw [e2]
    show IntKind.i64.wrap ((BitVec.ofInt 64 ((z / 2 : Nat) : Int) ^^^ BitVec.ofInt 64 0).toNat : Int) = _
    have e3 : BitVec.ofInt 64 ((z / 2 : Nat) : Int) ^^^ BitVec.ofInt 64 0 = BitVec.ofInt 64 ((z / 2 : Nat) : Int) := by simp
    rw [e3, BitVec.ofInt_natCast, BitVec.toNat_ofNat, IntKind.wrap_i64]
    omega
  · have e1 : (z : Int) % 2 = 1 := by omega
    rw [e1, if_neg h0, e0, bits_xor_comm]
    have e2 : wrap64 (-wrap64 1) = -1 := by simp [wrap64]
    rw [e2]
    exact Lib.i64_not _ (by omega)
def encI (n : Int) : List UInt8 := Lib.uvarint (Lib.zigzag n)
def encR (b : List UInt8) : List UInt8 := Lib.uvarint b.length ++ b
/-- Reading a number: the first byte has index i. -/
def uintGo (i n : Nat) : List UInt8 → Except Int (Nat × List UInt8)
  | [] => .error 3
  | c :: l => if (i = 9 ∧ 1 < c.toNat) ∨ (0 < i ∧ c.toNat = 0) then .error 2 else if c.toNat < 128 then .ok (n + c.toNat * 128 ^ i, l) else uintGo (i + 1) (n + (c.toNat - 128) * 128 ^ i) l
def uintP (l : List UInt8) : Except Int (Nat × List UInt8) := uintGo 0 0 l
def intP (l : List UInt8) : Except Int (Int × List UInt8) := match uintP l with
  | .error e => .error e
  | .ok (z, l) => .ok (unz z, l)
def rawP (l : List UInt8) : Except Int (List UInt8 × List UInt8) := match uintP l with
  | .error e => .error e
  | .ok (n, l) => if l.length < n then .error 3 else .ok (l.take n, l.drop n)
theorem encI_length (n : Int) (h1 : -9223372036854775808 ≤ n) (h2 : n ≤ 9223372036854775807) : (encI n).length ≤ 10 := Lib.uvarint_length64 (Lib.zigzag_lt h1 h2)
/-- A reader: the bytes that are left, or the error. -/
abbrev RSt := Except Int (List UInt8)
def stU : RSt → Nat × RSt
  | .error e => (0, .error e)
  | .ok l => match uintP l with | .error e => (0, .error e) | .ok (n, l') => (n, .ok l')
def stI (st : RSt) : Int × RSt := (unz (stU st).1, (stU st).2)
def stR : RSt → List UInt8 × RSt
  | .error e => ([], .error e)
  | .ok l => match rawP l with | .error e => ([], .error e) | .ok (b, l') => (b, .ok l')
def stE : RSt → Int
  | .error e => e
  | .ok l => if l = [] then 0 else 2
theorem pow128 (i : Nat) : (128 : Nat) ^ i = 2 ^ (7 * i) := by rw [Nat.pow_mul]
theorem andNot128 (c : UInt8) : bits .andNot .u8 (c.toNat : Int) 128 = ((c.toNat % 128 : Nat) : Int) := by
  have h : ∀ n : Fin 256, bits .andNot .u8 (n.val : Int) 128 = ((n.val % 128 : Nat) : Int) := by decide +kernel
  exact h ⟨c.toNat, c.toNat_lt⟩
theorem or_var (n m i : Nat) (hn : n < 128 ^ i) (hm : m < 128) (hi : i ≤ 9) (h9 : i = 9 → m ≤ 1) :
    bits .or .u64 (n : Int) (IntKind.u64.wrap (IntKind.u64.wrap (m : Int) * 2 ^ (7 * i))) = ((n + m * 128 ^ i : Nat) : Int) ∧ n + m * 128 ^ i < 18446744073709551616 := by
  have e' : ((2 : Int) ^ (7 * i)) = ((128 ^ i : Nat) : Int) := by rw [pow128]; push_cast; rfl
  have q9 : (128 : Nat) ^ 9 = 9223372036854775808 := by decide
  have q8 : (128 : Nat) ^ 8 = 72057594037927936 := by decide
  have hp0 : (128 : Nat) ^ i ≤ 9223372036854775808 := q9 ▸ Nat.pow_le_pow_right (by decide) hi
  have hb : m * 128 ^ i + 128 ^ i ≤ 18446744073709551616 := by
    by_cases h : i = 9
    · subst h
      have := h9 rfl
      rw [q9]; omega
    · have hp : (128 : Nat) ^ i ≤ 72057594037927936 := q8 ▸ Nat.pow_le_pow_right (by decide) (by omega)
      have : m * 128 ^ i ≤ 127 * 72057594037927936 := Nat.mul_le_mul (by omega) hp
      omega
  rw [e']
  generalize hp : (128 : Nat) ^ i = p at *
  have e2 : IntKind.u64.wrap (m : Int) = (m : Int) := wraps_u64 _ (by omega) (by omega)
  have e3 : IntKind.u64.wrap (((m : Nat) : Int) * (p : Int)) = ((m * p : Nat) : Int) := by
    rw [← Int.natCast_mul]; exact wraps_u64 _ (by omega) (by have : m * p < 2 ^ 64 := by omega
                                                             exact_mod_cast this)
  rw [e2, e3]
  have hp2 : (2 : Int) ^ (7 * i) = (p : Int) := e'
  have g1 : (n : Int) < (2 : Int) ^ (7 * i) := by rw [hp2]; exact_mod_cast hn
  have g2 : n < 2 ^ 64 := by omega
  have g3 : ((m * p : Nat) : Int) % (2 : Int) ^ (7 * i) = 0 := by rw [hp2]; push_cast; exact Int.mul_emod_left _ _
  have g4 : m * p < 2 ^ 64 := by omega
  refine ⟨?_, by omega⟩
  rw [bits_join_low .u64 64 (by decide) wraps_u64 (7 * i) _ _ (by omega) g1 (by exact_mod_cast g2) (by omega) g3 (by exact_mod_cast g4)]
  exact (Int.natCast_add _ _).symm
theorem uint_step (n c i : Nat) (hn : n < 128 ^ i) (hc : 128 ≤ c) (hc2 : c < 256) : n + (c - 128) * 128 ^ i < 128 ^ (i + 1) := by
  rw [Nat.pow_succ]
  have : (c - 128) * 128 ^ i ≤ 127 * 128 ^ i := Nat.mul_le_mul_right _ (by omega)
  omega
theorem uintGo_lt : ∀ (l : List UInt8) (i n : Nat), i ≤ 9 → n < 128 ^ i → ∀ m l', uintGo i n l = .ok (m, l') → m < 18446744073709551616 ∧ ∃ k, l' = l.drop k
  | [], i, n, _, _, m, l', h => by simp [uintGo] at h
  | c :: l, i, n, hi, hn, m, l', h => by
    have hc := c.toNat_lt
    unfold uintGo at h
    split at h
    · cases h
    · rename_i hbad
      split at h
      · rename_i hs
        cases h
        exact ⟨(or_var n c.toNat i hn hs hi (fun e => by rw [e] at hbad; omega)).2, 1, rfl⟩
      · rename_i hs
        by_cases h9 : i = 9
        · exfalso; rw [h9] at hbad; omega
        · obtain ⟨h1, k, h2⟩ := uintGo_lt l (i + 1) _ (by omega) (uint_step n c.toNat i hn (by omega) (by omega)) m l' h
          exact ⟨h1, k + 1, by rw [h2]; rfl⟩
theorem stU_lt (st : RSt) : (stU st).1 < 18446744073709551616 := by
  cases st with
  | error e => exact (by decide : 0 < 18446744073709551616)
  | ok l =>
    unfold stU
    dsimp only
    cases h : uintP l with
    | error e => exact (by decide : 0 < 18446744073709551616)
    | ok x => obtain ⟨m, l'⟩ := x; exact (uintGo_lt l 0 0 (by omega) (by decide) m l' h).1
end PA
