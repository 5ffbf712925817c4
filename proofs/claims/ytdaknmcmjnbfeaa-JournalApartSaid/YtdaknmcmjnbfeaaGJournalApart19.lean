/- The wire's numbers in plain. No program in sight. -/
import Derived.Lib.Varint
import Derived.Lib.Zigzag
import Derived.Lib.EndianBits
import Derived.Laws.Bits64
import Derived.WalkKit
import Derived.Test.YtdaknmcmjnbfeaaGJournalApart18
import Derived.Test.YtdaknmcmjnbfeaaGJournalApart10
import Derived.Laws.IdiomStrings
namespace PA
open Go RowKit
theorem bits_xor_comm (k : IntKind) (x y : Int) : bits .xor k x y = bits .xor k y x := by
  show IntKind.wrap k ((BitVec.ofInt k.bits x ^^^ BitVec.ofInt k.bits y).toNat : Int) = IntKind.wrap k ((BitVec.ofInt k.bits y ^^^ BitVec.ofInt k.bits x).toNat : Int)
  rw [BitVec.xor_comm]
theorem zz_val (n : Int) (h1 : -9223372036854775808 ≤ n) (h2 : n ≤ 9223372036854775807) :
    bits .xor .u64 (IntKind.u64.wrap (IntKind.u64.wrap n * 2)) (IntKind.u64.wrap (n / 9223372036854775808)) = (Lib.zigzag n : Nat) := by
  by_cases h : 0 ≤ n
  · have e1 : IntKind.u64.wrap (n / 9223372036854775808) = ((0 : Nat) : Int) := by rw [IntKind.wrap_u64]; omega
    have e2 : IntKind.u64.wrap (IntKind.u64.wrap n * 2) = ((2 * n).toNat : Nat) := by rw [IntKind.wrap_u64, IntKind.wrap_u64]; omega
    rw [e1, e2, bits_xor_u64_nat _ _ (by omega) (by decide), Nat.xor_zero]
    unfold Lib.zigzag; rw [if_pos h]
  · have e1 : IntKind.u64.wrap (n / 9223372036854775808) = IntKind.u64.max := by
      rw [IntKind.wrap_u64, show IntKind.u64.max = 18446744073709551615 by decide]; omega
    rw [e1, bits_xor_comm]
    exact Lib.zigzag_neg h1 (by omega)
/-- The number with a zigzag form. -/
def unz (z : Nat) : Int := if z % 2 = 0 then (z / 2 : Nat) else -((z / 2 : Nat) : Int) - 1
theorem unz_val (z : Nat) (h : z < 18446744073709551616) : bits BinOp.xor .i64 ((z : Int) / 2) (wrap64 (-wrap64 (bits BinOp.and .u64 (z : Int) 1))) = unz z := by
  rw [Lib.u64_and1 _ (by omega) (by omega)]
  have e0 : (z : Int) / 2 = ((z / 2 : Nat) : Int) := by omega
  unfold unz
  by_cases h0 : z % 2 = 0
  · have e1 : (z : Int) % 2 = 0 := by omega
    rw [e1, if_pos h0, e0]
    have e2 : wrap64 (-wrap64 0) = 0 := by simp [wrap64]
    rw [e2]
    show IntKind.i64.wrap ((BitVec.ofInt 64 ((z / 2 : Nat) : Int) ^^^ BitVec.ofInt 64 0).toNat : Int) = _
    have e3 : BitVec.ofInt 64 ((z / 2 : Nat) : Int) ^^^ BitVec.ofInt 64 0 = BitVec.ofInt 64 ((z / 2 : Nat) : Int) := by simp
    rw [e3, BitVec.ofInt_natCast, BitVec.toNat_ofNat, IntKind.wrap_i64]
    omega
  · have e1 : (z : Int) % 2 = 1 := by omega
    rw [e1, if_neg h0, e0, bits_xor_comm]
    have e2 : wrap64 (-wrap64 1) = -1 := by simp [wrap64]
    rw [e2]
    exact Lib.i64_not _ (by omega)
def encI (n : Int) : List UInt8 := Lib.uvarint (Lib.zigzag n)
def encR (b : List UInt8) : List UInt8 := Lib.uvarint b.length ++ b
/-- Reading a number: the first byte has index i. -/
def uintGo (i n : Nat) : List UInt8 → Except Int (Nat × List UInt8)
  | [] => .error 3
  | c :: l => if (i = 9 ∧ 1 < c.toNat) ∨ (0 < i ∧ c.toNat = 0) then .error 2 else if c.toNat < 128 then .ok (n + c.toNat * 128 ^ i, l) else uintGo (i + 1) (n + (c.toNat - 128) * 128 ^ i) l
def uintP (l : List UInt8) : Except Int (Nat × List UInt8) := uintGo 0 0 l
def intP (l : List UInt8) : Except Int (Int × List UInt8) := match uintP l with
  | .error e => .error e
  | .ok (z, l) => .ok (unz z, l)
def rawP (l : List UInt8) : Except Int (List UInt8 × List UInt8) := match uintP l with
  | .error e => .error e
  | .ok (n, l) => if l.length < n then .error 3 else .ok (l.take n, l.drop n)
theorem encI_length (n : Int) (h1 : -9223372036854775808 ≤ n) (h2 : n ≤ 9223372036854775807) : (encI n).length ≤ 10 := Lib.uvarint_length64 (Lib.zigzag_lt h1 h2)
/-- A reader: the bytes that are left, or the error. -/
abbrev RSt := Except Int (List UInt8)
def stU : RSt → Nat × RSt
  | .error e => (0, .error e)
  | .ok l => match uintP l with | .error e => (0, .error e) | .ok (n, l') => (n, .ok l')
def stI (st : RSt) : Int × RSt := (unz (stU st).1, (stU st).2)
def stR : RSt → List UInt8 × RSt
  | .error e => ([], .error e)
  | .ok l => match rawP l with | .error e => ([], .error e) | .ok (b, l') => (b, .ok l')
def stE : RSt → Int
  | .error e => e
  | .ok l => if l = [] then 0 else 2
theorem pow128 (i : Nat) : (128 : Nat) ^ i = 2 ^ (7 * i) := by rw [Nat.pow_mul]
theorem andNot128 (c : UInt8) : bits .andNot .u8 (c.toNat : Int) 128 = ((c.toNat % 128 : Nat) : Int) := by
  have h : ∀ n : Fin 256, bits .andNot .u8 (n.val : Int) 128 = ((n.val % 128 : Nat) : Int) := by decide +kernel
  exact h ⟨c.toNat, c.toNat_lt⟩
theorem or_var (n m i : Nat) (hn : n < 128 ^ i) (hm : m < 128) (hi : i ≤ 9) (h9 : i = 9 → m ≤ 1) :
    bits .or .u64 (n : Int) (IntKind.u64.wrap (IntKind.u64.wrap (m : Int) * 2 ^ (7 * i))) = ((n + m * 128 ^ i : Nat) : Int) ∧ n + m * 128 ^ i < 18446744073709551616 := by
  have e' : ((2 : Int) ^ (7 * i)) = ((128 ^ i : Nat) : Int) := by rw [pow128]; push_cast; rfl
  have q9 : (128 : Nat) ^ 9 = 9223372036854775808 := by decide
  have q8 : (128 : Nat) ^ 8 = 72057594037927936 := by decide
  have hp0 : (128 : Nat) ^ i ≤ 9223372036854775808 := q9 ▸ Nat.pow_le_pow_right (by decide) hi
  have hb : m * 128 ^ i + 128 ^ i ≤ 18446744073709551616 := by
    by_cases h : i = 9
    · subst h
      have := h9 rfl
      rw [q9]; omega
    · have hp : (128 : Nat) ^ i ≤ 72057594037927936 := q8 ▸ Nat.pow_le_pow_right (by decide) (by omega)
      have : m * 128 ^ i ≤ 127 * 72057594037927936 := Nat.mul_le_mul (by omega) hp
      omega
  rw [e']
  generalize hp : (128 : Nat) ^ i = p at *
  have e2 : IntKind.u64.wrap (m : Int) = (m : Int) := wraps_u64 _ (by omega) (by omega)
  have e3 : IntKind.u64.wrap (((m : Nat) : Int) * (p : Int)) = ((m * p : Nat) : Int) := by
    rw [← Int.natCast_mul]; exact wraps_u64 _ (by omega) (by have : m * p < 2 ^ 64 := by omega
                                                             exact_mod_cast this)
  rw [e2, e3]
  have hp2 : (2 : Int) ^ (7 * i) = (p : Int) := e'
  have g1 : (n : Int) < (2 : Int) ^ (7 * i) := by rw [hp2]; exact_mod_cast hn
  have g2 : n < 2 ^ 64 := by omega
  have g3 : ((m * p : Nat) : Int) % (2 : Int) ^ (7 * i) = 0 := by rw [hp2]; push_cast; exact Int.mul_emod_left _ _
  have g4 : m * p < 2 ^ 64 := by omega
  refine ⟨?_, by omega⟩
  rw [bits_join_low .u64 64 (by decide) wraps_u64 (7 * i) _ _ (by omega) g1 (by exact_mod_cast g2) (by omega) g3 (by exact_mod_cast g4)]
  exact (Int.natCast_add _ _).symm
theorem uint_step (n c i : Nat) (hn : n < 128 ^ i) (hc : 128 ≤ c) (hc2 : c < 256) : n + (c - 128) * 128 ^ i < 128 ^ (i + 1) := by
  rw [Nat.pow_succ]
  have : (c - 128) * 128 ^ i ≤ 127 * 128 ^ i := Nat.mul_le_mul_right _ (by omega)
  omega
theorem uintGo_lt : ∀ (l : List UInt8) (i n : Nat), i ≤ 9 → n < 128 ^ i → ∀ m l', uintGo i n l = .ok (m, l') → m < 18446744073709551616 ∧ ∃ k, l' = l.drop k
  | [], i, n, _, _, m, l', h => by simp [uintGo] at h
  | c :: l, i, n, hi, hn, m, l', h => by
    have hc := c.toNat_lt
    unfold uintGo at h
    split at h
    · cases h
    · rename_i hbad
      split at h
      · rename_i hs
        cases h
        exact ⟨(or_var n c.toNat i hn hs hi (fun e => by rw [e] at hbad; omega)).2, 1, rfl⟩
      · rename_i hs
        by_cases h9 : i = 9
        · exfalso; rw [h9] at hbad; omega
        · obtain ⟨h1, k, h2⟩ := uintGo_lt l (i + 1) _ (by omega) (uint_step n c.toNat i hn (by omega) (by omega)) m l' h
          exact ⟨h1, k + 1, by rw [h2]; rfl⟩
theorem stU_lt (st : RSt) : (stU st).1 < 18446744073709551616 := by
  cases st with
  | error e => exact (by decide : 0 < 18446744073709551616)
  | ok l =>
    unfold stU
    dsimp only
    cases h : uintP l with
    | error e => exact (by decide : 0 < 18446744073709551616)
    | ok x => obtain ⟨m, l'⟩ := x; exact (uintGo_lt l 0 0 (by omega) (by decide) m l' h).1
end PA
/- Package wire: zigzag, Int, Text, Raw, Done; the reference's Uint, Int, Raw. -/
namespace Go.Proofs.Ytdaknmcmjnbfeaa
open Go.RowKit PA
theorem zigzag_spec (n : Int) (w : World) (h1 : -9223372036854775808 ≤ n) (h2 : n ≤ 9223372036854775807) : Calls Try.prog 44 #[.int .i64 n] w fun e w' => e = .returned (.int .u64 (Lib.zigzag n : Nat)) ∧ w = w' := by
  go_enter Try.func44, Try.ntmps44
  go_wp2
  go_ret
  exact ⟨ret_int (zz_val n h1 h2), rfl⟩
theorem rzigzag_spec (n : Int) (w : World) (h1 : -9223372036854775808 ≤ n) (h2 : n ≤ 9223372036854775807) : Calls Try.prog 75 #[.int .i64 n] w fun e w' => e = .returned (.int .u64 (Lib.zigzag n : Nat)) ∧ w = w' := by
  by_cases h0 : n < 0
  · go_enter Try.func75, Try.ntmps75
    go_wp2
    go_ret
    exact ⟨ret_int (by show 2 * -(n + 1) + 1 = _; unfold Lib.zigzag; rw [if_neg (by omega)]; omega), rfl⟩
  · go_enter Try.func75, Try.ntmps75
    go_wp2
    go_ret
    exact ⟨ret_int (by show 2 * n = _; unfold Lib.zigzag; rw [if_pos (by omega)]; omega), rfl⟩
theorem unzigzag_spec (z : Nat) (w : World) (h1 : z < 18446744073709551616) : Calls Try.prog 86 #[.int .u64 z] w fun e w' => e = .returned (.int .i64 (unz z)) ∧ w = w' := by
  go_enter Try.func86, Try.ntmps86
  go_wp2
  go_ret
  exact ⟨ret_int (unz_val z h1), rfl⟩
theorem rback_spec (z : Nat) (w : World) (h1 : z < 18446744073709551616) : Calls Try.prog 80 #[.int .u64 z] w fun e w' => e = .returned (.int .i64 (unz z)) ∧ w = w' := by
  by_cases h0 : z % 2 = 1
  · have e1 : (z : Int) % 2 = 1 := by omega
    go_enter Try.func80, Try.ntmps80
    go_wp2
    go_ret
    exact ⟨ret_int (by show -((z : Int) / 2) - 1 = _; unfold unz; rw [if_neg (by omega)]; omega), rfl⟩
  · have e1 : (z : Int) % 2 = 0 := by omega
    go_enter Try.func80, Try.ntmps80
    go_wp2
    go_ret
    exact ⟨ret_int (by show (z : Int) / 2 = _; unfold unz; rw [if_pos (by omega)]; omega), rfl⟩
theorem wint_spec {W w : World} {A : Assn} (p : Nat) (bs : List UInt8) (n : Int) (h1 : -9223372036854775808 ≤ n) (h2 : n ≤ 9223372036854775807) (h : Sat W w (sep (isWr p bs) A)) (hb : bs.length ≤ 1073741824) :
    Calls Try.prog 20 #[.pointer (some ⟨p, 0, none⟩), .int .i64 n] w fun e w' => e = .returned (.tuple #[]) ∧ Sat W w' (sep (isWr p (bs ++ encI n)) A) := by
  have hz := Lib.zigzag_lt h1 h2
  have HZ := Lib.hid hz
  have HB := Lib.hid hb
  clear hz hb
  go_enter Try.func20, Try.ntmps20
  go_wp2_with fail
  refine (zigzag_spec n _ h1 h2).mono ?_
  rintro e w2 ⟨rfl, rfl⟩
  go_wp2_with fail
  refine (wuint_spec p bs (Lib.zigzag n) HZ.out h HB.out).mono ?_
  rintro e w3 ⟨rfl, hS⟩
  go_wp2_with fail
  go_end0
  exact ⟨rfl, hS⟩
set_option maxHeartbeats 1000000 in
theorem wtext_spec {W w : World} {A : Assn} (p : Nat) (bs : List UInt8) (s : ByteArray) (h : Sat W w (sep (isWr p bs) A)) (hb : bs.length ≤ 1073741800) (hs : s.size ≤ 1073741824) :
    Calls Try.prog 45 #[.pointer (some ⟨p, 0, none⟩), .string s] w fun e w' => e = .returned (.tuple #[]) ∧ Sat W w' (sep (isWr p (bs ++ encR s.data.toList)) A) := by
  have hw1 : IntKind.u64.wrap (s.size : Int) = (s.size : Nat) := wraps_u64 _ (by omega) (by omega)
  have HB := Lib.hid hb
  have HS := Lib.hid hs
  clear hb hs
  go_enter Try.func45, Try.ntmps45
  go_wp2_with fail
  refine (wuint_spec p bs s.size (by have := HS.out; omega) h (by have := HB.out; omega)).mono ?_
  rintro e w3 ⟨rfl, hS⟩
  obtain ⟨a, n, c, hn, h3⟩ := isWr_open hS
  have hul := Lib.uvarint_length64 (x := s.size) (by have := HS.out; omega)
  have hnb : n ≤ 1073741900 := by rw [hn, List.length_append]; have := HB.out; omega
  obtain ⟨vs, hvs⟩ : ∃ vs, vs = (bs ++ Lib.uvarint s.size).map bv := ⟨_, rfl⟩
  rw [← hvs] at h3
  have c1 : w3.cell? ⟨p, 0, none⟩ = some (.slice a n c) := h3.cell 0
  have f1 : w3.frozen? ⟨p, 0, none⟩ = false := h3.unfrozen 0
  have hB := h3.p1
  have HN := Lib.hid hnb
  have HVS := Lib.hid hvs
  clear hn hul hnb hvs h h3 hS hw1
  go_wp2_with (at_builtin; (refine wpl_append_osl_str rfl (.tmp 13) (.tmp 14) 23 9 rfl 5 Try.underlying23 Try.underlying9 infoU8w rfl hB s rfl (by have := HN.out; have := HS.out; omega) ?_))
  intro a2 c2 w4 h4
  have h5 := h4.p1
  have c2' : w4.cell? ⟨p, 0, none⟩ = some (.slice a n c) := h5.cell 0
  have f2' : w4.frozen? ⟨p, 0, none⟩ = false := h5.unfrozen 0
  have h6 : Sat W (w4.setCell ⟨p, 0, none⟩ (.slice a2 (n + s.size) c2)) (sep (blk p (.cells #[.slice a2 (n + s.size) c2] 37 (0, 0))) (sep (osl 5 1 a2 (n + s.size) c2 (vs ++ s.data.toList.map bv)) A)) := h5.setCell 0 _
  clear hB h4 h5 c1 f1
  go_wp2_with fail
  go_end0
  refine ⟨rfl, isWr_mk (a := a2) (n := n + s.size) (c := c2) ?_⟩
  rw [encR, show s.data.toList.length = s.size by simp, ← List.append_assoc, List.map_append, ← HVS.out]
  exact h6
theorem wdone_spec {W w : World} {A : Assn} (p : Nat) (bs : List UInt8) (h : Sat W w (sep (isWr p bs) A)) (hb : bs.length ≤ 1073742900) :
    Calls Try.prog 22 #[.pointer (some ⟨p, 0, none⟩)] w fun e w' => ∃ a c, e = .returned (.slice a bs.length c) ∧ Sat W w' (sep (osl 5 1 a bs.length c (bs.map bv)) (sep (isWr p bs) A)) := by
  obtain ⟨a, n, c, hn, h1⟩ := isWr_open h
  have c1 : w.cell? ⟨p, 0, none⟩ = some (.slice a n c) := h1.cell 0
  have hsw := h1.p1.swf_of_osl
  have hsrc := h1.p1.osl_src
  rw [← hn] at hb ⊢
  have hcl := clone_any a n c (bs.map bv) h1 hsrc (by rw [List.length_map, hn]) hsw (bv_one bs) (by omega)
  have HCL := Lib.hid hcl
  clear h h1 hn hsw hsrc hcl hb
  go_enter Try.func22, Try.ntmps22
  go_wp2_with fail
  refine HCL.out.mono ?_
  rintro e w2 ⟨a2, c2, rfl, hS⟩
  clear c1
  go_wp2_with fail
  go_ret
  refine ⟨a2, c2, rfl, ?_⟩
  have h2 := isWr_mk (a := a) (n := n) (c := c) (p := p) (bs := bs) (A := sep (osl 5 1 a2 n c2 (bs.map bv)) A) (by simpa only [sep_comm, sep_lcomm, sep_assoc] using hS)
  exact h2.p1
set_option maxHeartbeats 1000000 in
theorem wraw_spec {W w : World} {A : Assn} {I : Mem} (p : Nat) (bs : List UInt8) (v : Value) (b : List UInt8) (h : Sat W w (sep (isWr p bs) (sep (kn I) A))) (hv : rBytes.rel I [v] b) (hb : bs.length ≤ 1073741800) (hs : b.length ≤ 1073741824) :
    Calls Try.prog 21 #[.pointer (some ⟨p, 0, none⟩), v] w fun e w' => e = .returned (.tuple #[]) ∧ Sat W w' (sep (isWr p (bs ++ encR b)) (sep (kn I) A)) := by
  obtain ⟨a, c, rfl, hsw, hc⟩ := bytes_rel.1 hv
  have hsrc := src_ext hc h.p1.ext
  obtain ⟨s, hsd⟩ : ∃ s : ByteArray, s = ⟨b.toArray⟩ := ⟨_, rfl⟩
  have hsl : s.data.toList = b := by rw [hsd]
  have hss : s.size = b.length := by rw [hsd]; simp [ByteArray.size]
  have hconv : (convert 23 9 (.slice a b.length c)).run Try.prog w = .ok (.string s) w := by
    cases a with
    | none =>
      have hc0 := hsw.2.2 rfl
      have hb0 : b = [] := List.eq_nil_of_length_eq_zero (by have := hsw.1; omega)
      subst hb0
      rw [hsd]
      simp [convert, run_underlying Try.underlying23, run_underlying Try.underlying9, run_underlying Try.underlying5, Conv.bytesToString]
      rfl
    | some ad =>
      have := run_convert_bytes_back (P := Try.prog) w 23 9 5 ad c b Try.underlying23 Try.underlying5 Try.underlying9 (fun j hj => hsrc ad rfl j _ (by rw [List.getElem?_map, List.getElem?_eq_getElem hj]; rfl))
      rw [hsd]; exact this
  have htx := wtext_spec p bs s h hb (by rw [hss]; exact hs)
  rw [hsl] at htx
  have HT := Lib.hid htx
  obtain ⟨n0, hn0⟩ : ∃ n0, n0 = b.length := ⟨_, rfl⟩
  rw [← hn0] at hconv ⊢
  clear htx hv hsw hc hsrc hsd hsl hss hn0 hb hs h
  go_enter Try.func21, Try.ntmps21
  go_wp2_with fail
  refine HT.out.mono ?_
  rintro e w3 ⟨rfl, hS⟩
  go_wp2_with fail
  go_end0
  exact ⟨rfl, hS⟩
end Go.Proofs.Ytdaknmcmjnbfeaa
