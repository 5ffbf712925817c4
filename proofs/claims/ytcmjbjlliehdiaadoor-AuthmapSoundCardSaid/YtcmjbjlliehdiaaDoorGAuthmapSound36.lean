/- The hash and the numbers of the wire, what changes with one byte: plain. -/
import Derived.Test.YtcmjbjlliehdiaaDoorGAuthmapSound0
import Derived.Test.YtcmjbjlliehdiaaDoorGAuthmapSound30
import Derived.Test.YtcmjbjlliehdiaaDoorGAuthmapSoundSQk
namespace PA
open Go
def invN : Nat := 17428512612931826493
theorem mul_inj (a b : Nat) (ha : a < 18446744073709551616) (hb : b < 18446744073709551616) (h : a * mulN % 18446744073709551616 = b * mulN % 18446744073709551616) : a = b := by
  have key : ∀ x, x < 18446744073709551616 → (x * mulN % 18446744073709551616) * invN % 18446744073709551616 = x := by
    intro x hx
    rw [Nat.mod_mul_mod, Nat.mul_assoc, show mulN * invN = 18446744073709551616 * 10771413168148108919 + 1 by decide, Nat.mul_add, Nat.mul_one, ← Nat.mul_assoc, Nat.mul_comm x, Nat.mul_assoc, Nat.mul_add_mod]
    exact Nat.mod_eq_of_lt hx
  rw [← key a ha, ← key b hb, h]
theorem fold_inv (m : Nat) (hm : m < 18446744073709551616) : (m ^^^ (m / 4294967296)) ^^^ ((m ^^^ (m / 4294967296)) / 4294967296) = m := by
  have e : ∀ x : Nat, x / 4294967296 = x >>> 32 := fun x => by rw [Nat.shiftRight_eq_div_pow]
  rw [e, e, Nat.shiftRight_xor_distrib, ← Nat.shiftRight_add]
  have h0 : m >>> (32 + 32) = 0 := by rw [Nat.shiftRight_eq_div_pow]; exact Nat.div_eq_of_lt hm
  rw [h0, Nat.xor_zero, Nat.xor_assoc, Nat.xor_self, Nat.xor_zero]
theorem mixN_inj (s x s' x' : Nat) (h1 : s < 18446744073709551616) (h2 : x < 18446744073709551616) (h3 : s' < 18446744073709551616) (h4 : x' < 18446744073709551616) (h : mixN s x = mixN s' x') : s ^^^ x = s' ^^^ x' := by
  have hm : ∀ y : Nat, y % 18446744073709551616 < 18446744073709551616 := fun y => Nat.mod_lt _ (by decide)
  have h5 := congrArg (fun m => m ^^^ (m / 4294967296)) h
  simp only [mixN] at h5
  rw [fold_inv _ (hm _), fold_inv _ (hm _)] at h5
  exact mul_inj _ _ (xor_lt64 _ _ h1 h2) (xor_lt64 _ _ h3 h4) h5
theorem xor_cancel (a b c : Nat) (h : a ^^^ b = a ^^^ c) : b = c := by
  have := congrArg (a ^^^ ·) h
  simpa [← Nat.xor_assoc] using this
theorem mixN_left (s s' x : Nat) (h1 : s < 18446744073709551616) (h2 : x < 18446744073709551616) (h3 : s' < 18446744073709551616) (h : mixN s x = mixN s' x) : s = s' := by
  have := mixN_inj s x s' x h1 h2 h3 h2 h
  rw [Nat.xor_comm s, Nat.xor_comm s'] at this
  exact xor_cancel _ _ _ this
theorem mixN_right (s x x' : Nat) (h1 : s < 18446744073709551616) (h2 : x < 18446744073709551616) (h3 : x' < 18446744073709551616) (h : mixN s x = mixN s x') : x = x' :=
  xor_cancel _ _ _ (mixN_inj s x s x' h1 h2 h1 h3 h)
theorem foldl_mix_inj : ∀ (l : List Nat) (s s' : Nat), (∀ x ∈ l, x < 18446744073709551616) → s < 18446744073709551616 → s' < 18446744073709551616 → l.foldl mixN s = l.foldl mixN s' → s = s'
  | [], _, _, _, _, _, h => h
  | x :: l, s, s', hl, h1, h2, h =>
    mixN_left s s' x h1 (hl x (by simp)) h2 (foldl_mix_inj l _ _ (fun y hy => hl y (by simp [hy])) (mixN_lt _ _) (mixN_lt _ _) h)
/-- Two lists of words that differ in one place have other sums. -/
theorem sumU_set (label : List UInt8) (pre post : List Nat) (x y : Nat) (hp : ∀ z ∈ pre, z < 18446744073709551616) (hq : ∀ z ∈ post, z < 18446744073709551616) (hx : x < 18446744073709551616) (hy : y < 18446744073709551616) (h : sumU label (pre ++ x :: post) = sumU label (pre ++ y :: post)) : x = y := by
  unfold sumU at h
  have e : (pre ++ x :: post).length = (pre ++ y :: post).length := by simp
  rw [e] at h
  have hs0 := mixN_lt (mixN ((wordsN label).foldl mixN 0) label.length) (pre ++ y :: post).length
  generalize mixN (mixN ((wordsN label).foldl mixN 0) label.length) (pre ++ y :: post).length = s0 at h hs0
  have hs1 : pre.foldl mixN s0 < 18446744073709551616 := foldl_mix_lt pre s0 hs0
  have h1 := mixN_left _ _ 0 (foldl_mix_lt _ s0 hs0) (by omega) (foldl_mix_lt _ s0 hs0) h
  rw [List.foldl_append, List.foldl_append, List.foldl_cons, List.foldl_cons] at h1
  have h2 := foldl_mix_inj post _ _ hq (mixN_lt _ _) (mixN_lt _ _) h1
  exact mixN_right _ _ _ hs1 hx hy h2
theorem leN_inj : ∀ (a b : List UInt8), a.length = b.length → leN a = leN b → a = b
  | [], [], _, _ => rfl
  | x :: a, y :: b, hl, h => by
    simp only [leN] at h
    have hx := x.toNat_lt
    have hy := y.toNat_lt
    have h1 : x.toNat = y.toNat := by omega
    have h2 : leN a = leN b := by omega
    rw [leN_inj a b (by simpa using hl) h2, UInt8.toNat_inj.1 h1]
  | [], _ :: _, h, _ => by simp at h
  | _ :: _, [], h, _ => by simp at h
/-- Bytes of one length that differ in one place have other hashes. -/
theorem bytesN_set (label b : List UInt8) (k : Nat) (c : UInt8) (hk : k < b.length) (hb : b.length < 18446744073709551616) (hc : c ≠ b[k]) : bytesN label (b.set k c) ≠ bytesN label b := by
  intro h
  unfold bytesN at h
  have hl : (b.set k c).length = b.length := by simp
  rw [hl] at h
  have hj : k / 8 < (b.length + 7) / 8 := by omega
  have hsplit : ∀ l : List UInt8, l.length = b.length → wordsN l = (List.range (k / 8)).map (wordN l) ++ wordN l (k / 8) :: (List.range' (k / 8 + 1) ((b.length + 7) / 8 - (k / 8 + 1))).map (wordN l) := by
    intro l hl
    rw [wordsN, hl]
    have : List.range ((b.length + 7) / 8) = List.range (k / 8) ++ (k / 8) :: List.range' (k / 8 + 1) ((b.length + 7) / 8 - (k / 8 + 1)) := by
      rw [List.range_eq_range', List.range_eq_range']
      have h1 : (b.length + 7) / 8 = k / 8 + (1 + ((b.length + 7) / 8 - (k / 8 + 1))) := by omega
      conv => lhs; rw [h1]
      rw [← List.range'_append, Nat.add_comm 1, List.range'_succ]
      simp
    rw [this, List.map_append, List.map_cons]
  have hother : ∀ i, i ≠ k / 8 → wordN (b.set k c) i = wordN b i := by
    intro i hi
    unfold wordN
    congr 1
    rw [List.drop_set]
    split
    · rfl
    · rw [List.take_set, List.set_eq_of_length_le]
      rw [List.length_take]
      omega
  rw [hsplit _ hl, hsplit _ rfl, List.append_assoc, List.append_assoc, List.cons_append, List.cons_append] at h
  have e1 : (List.range (k / 8)).map (wordN (b.set k c)) = (List.range (k / 8)).map (wordN b) := List.map_congr_left fun i hi => hother i (by have := List.mem_range.1 hi; omega)
  have e2 : (List.range' (k / 8 + 1) ((b.length + 7) / 8 - (k / 8 + 1))).map (wordN (b.set k c)) = (List.range' (k / 8 + 1) ((b.length + 7) / 8 - (k / 8 + 1))).map (wordN b) := List.map_congr_left fun i hi => hother i (by have := (List.mem_range'_1.1 hi).1; omega)
  rw [e1, e2] at h
  have hw := sumU_set label _ _ _ _ (fun z hz => by obtain ⟨i, _, rfl⟩ := List.mem_map.1 hz; exact wordN_lt _ _) (fun z hz => by
    rcases List.mem_append.1 hz with hz | hz
    · obtain ⟨i, _, rfl⟩ := List.mem_map.1 hz; exact wordN_lt _ _
    · simp at hz; omega) (wordN_lt _ _) (wordN_lt _ _) h
  unfold wordN at hw
  have h5 := leN_inj _ _ (by simp) hw
  have h6 : (((b.set k c).drop (8 * (k / 8))).take 8)[k % 8]? = ((b.drop (8 * (k / 8))).take 8)[k % 8]? := by rw [h5]
  have hm : k % 8 < 8 := Nat.mod_lt _ (by decide)
  rw [List.getElem?_take, List.getElem?_take, if_pos hm, if_pos hm, List.getElem?_drop, List.getElem?_drop, show 8 * (k / 8) + k % 8 = k by omega, List.getElem?_set_self hk, List.getElem?_eq_getElem hk] at h6
  exact hc (by simpa using h6)
/-- A number that is read was written so. -/
theorem uintGo_enc : ∀ (l : List UInt8) (i n m : Nat) (r : List UInt8), uintGo i n l = .ok (m, r) → ∃ q, m = n + q * 128 ^ i ∧ l = Lib.uvarint q ++ r ∧ (0 < i → 0 < q)
  | [], i, n, m, r, h => by simp [uintGo] at h
  | c :: l, i, n, m, r, h => by
    have hc := c.toNat_lt
    unfold uintGo at h
    split at h
    · cases h
    · rename_i hbad
      split at h
      · rename_i hs
        cases h
        refine ⟨c.toNat, rfl, ?_, fun hi => by omega⟩
        rw [Lib.uvarint_small hs]
        simp
      · rename_i hs
        obtain ⟨q, h1, h2, h3⟩ := uintGo_enc l (i + 1) _ m r h
        refine ⟨c.toNat - 128 + 128 * q, ?_, ?_, fun _ => by have := h3 (by omega); omega⟩
        · rw [h1, Nat.add_mul, Nat.pow_succ, Nat.mul_assoc 128 q, Nat.mul_comm 128 (q * 128 ^ i), Nat.mul_assoc q, Nat.add_assoc]
        · have hq := h3 (by omega)
          rw [Lib.uvarint_big (by omega), h2]
          have e1 : (c.toNat - 128 + 128 * q) / 128 = q := by omega
          have e2 : ((c.toNat - 128 + 128 * q) % 128 + 128).toUInt8 = c := by
            apply UInt8.toNat_inj.1
            simp; omega
          rw [e1, e2]; rfl
/-- What was written is read. -/
theorem uintGo_of : ∀ (k : Nat) (i n q : Nat) (r : List UInt8), i + k = 9 → q < 2 * 128 ^ k → (0 < i → 0 < q) → uintGo i n (Lib.uvarint q ++ r) = .ok (n + q * 128 ^ i, r)
  | 0, i, n, q, r, hi, hq, hp => by
    rw [Lib.uvarint_small (by omega)]
    have hq1 : q.toUInt8.toNat = q := by simp; omega
    show uintGo i n (q.toUInt8 :: r) = _
    rw [uintGo, if_neg (by rw [hq1]; have := hp (by omega); omega), if_pos (by rw [hq1]; omega), hq1]
  | k + 1, i, n, q, r, hi, hq, hp => by
    by_cases hs : q < 128
    · rw [Lib.uvarint_small hs]
      have hq1 : q.toUInt8.toNat = q := by simp; omega
      show uintGo i n (q.toUInt8 :: r) = _
      rw [uintGo, if_neg (by rw [hq1]; omega), if_pos (by rw [hq1]; exact hs), hq1]
    · rw [Lib.uvarint_big (by omega), List.cons_append]
      have hq1 : (q % 128 + 128).toUInt8.toNat = q % 128 + 128 := by simp; omega
      rw [uintGo, if_neg (by rw [hq1]; omega), if_neg (by rw [hq1]; omega), hq1]
      rw [uintGo_of k (i + 1) _ (q / 128) r (by omega) (by rw [Nat.pow_succ] at hq; omega) (fun _ => by omega)]
      have e : (q % 128 + 128 - 128) * 128 ^ i + q / 128 * 128 ^ (i + 1) = q * 128 ^ i := by
        rw [Nat.pow_succ, Nat.add_sub_cancel]
        generalize 128 ^ i = P
        have h1 : q / 128 * (P * 128) = (128 * (q / 128)) * P := by rw [Nat.mul_comm P 128, ← Nat.mul_assoc, Nat.mul_comm (q / 128) 128]
        rw [h1, ← Nat.add_mul, Nat.mod_add_div]
      rw [Nat.add_assoc, e]
theorem uintP_of (q : Nat) (r : List UInt8) (hq : q < 18446744073709551616) : uintP (Lib.uvarint q ++ r) = .ok (q, r) := by
  have h9 : (2 : Nat) * 128 ^ 9 = 18446744073709551616 := by decide
  have := uintGo_of 9 0 0 q r rfl (by rw [h9]; exact hq) (fun h => absurd h (Nat.lt_irrefl 0))
  rw [Nat.pow_zero, Nat.mul_one, Nat.zero_add] at this
  exact this
theorem uintP_enc (l r : List UInt8) (m : Nat) (h : uintP l = .ok (m, r)) : l = Lib.uvarint m ++ r := by
  obtain ⟨q, h1, h2, _⟩ := uintGo_enc l 0 0 m r h
  rw [h2]
  have : m = q := by simpa using h1
  rw [this]
theorem rawP_of (b r : List UInt8) (hb : b.length < 18446744073709551616) : rawP (encR b ++ r) = .ok (b, r) := by
  unfold rawP encR
  rw [List.append_assoc, uintP_of _ _ hb]
  simp
end PA
/- The encoding of a proof: it is read back, and what is read is written as it was. Plain. -/
namespace Go.Proofs.YtcmjbjlliehdiaaDoor
open Go.RowKit PA
theorem qU_of (x : Nat) (r : List UInt8) (hx : x < 18446744073709551616) : stU (.ok (Lib.uvarint x ++ r)) = (x, .ok r) := by
  simp only [stU, uintP_of x r hx]
theorem qI_of (n : Int) (r : List UInt8) (h1 : -9223372036854775808 ≤ n) (h2 : n ≤ 9223372036854775807) : stI (.ok (PA.encI n ++ r)) = (n, .ok r) := by
  unfold stI
  rw [PA.encI, qU_of _ r (Lib.zigzag_lt h1 h2)]
  have : unz (Lib.zigzag n) = n := by unfold unz Lib.zigzag; split <;> split <;> omega
  rw [this]
theorem qR_of (b r : List UInt8) (hb : b.length < 18446744073709551616) : stR (.ok (encR b ++ r)) = (b, .ok r) := by
  unfold stR; dsimp only
  rw [rawP_of b r hb]
theorem stS_shift (st : RSt) : ∀ k, stS (stU st).2 k = stS st (k + 1)
  | 0 => rfl
  | k + 1 => by show (stU (stS (stU st).2 k)).2 = _; rw [stS_shift st k]; rfl
theorem nmS_cons (st : RSt) (k : Nat) : nmS st (k + 1) = (stU st).1 :: nmS (stU st).2 k := by
  unfold nmS
  rw [List.range_succ_eq_map, List.map_cons, List.map_map]
  congr 1
  apply List.map_congr_left
  intro i _
  show (stU (stS st (i + 1))).1 = _
  rw [← stS_shift]
theorem nms_of : ∀ (hs : List Nat) (r : List UInt8), (∀ h ∈ hs, h < 18446744073709551616) → nmS (.ok (uvsE hs ++ r)) hs.length = hs ∧ stS (.ok (uvsE hs ++ r)) hs.length = .ok r
  | [], r, _ => ⟨rfl, rfl⟩
  | h :: hs, r, hb => by
    have e : uvsE (h :: hs) ++ r = Lib.uvarint h ++ (uvsE hs ++ r) := by unfold uvsE; rw [List.flatMap_cons, List.append_assoc]
    have hu := qU_of h (uvsE hs ++ r) (hb h (by simp))
    have ih := nms_of hs r fun x hx => hb x (by simp [hx])
    rw [e, List.length_cons, nmS_cons, ← stS_shift, hu]
    exact ⟨by rw [ih.1], ih.2⟩
theorem decL_of (lb : Nat) (hs : List Nat) (r : List UInt8) (hl : hs.length ≤ lb) (hm : hs.length ≤ 1000000) (hb : ∀ h ∈ hs, h < 18446744073709551616) : decL lb (.ok (hvsE hs ++ r)) = some (hs, .ok r) := by
  have hi := qI_of (hs.length : Int) (uvsE hs ++ r) (by omega) (by omega)
  have e : hvsE hs ++ r = PA.encI (hs.length : Int) ++ (uvsE hs ++ r) := by unfold hvsE; rw [List.append_assoc]
  have hn := nms_of hs r hb
  rw [e]
  have := decL_some (lb := lb) (m := hs.length) (st := .ok (PA.encI (hs.length : Int) ++ (uvsE hs ++ r))) (by rw [hi]) hl
  rw [this, hi]
  dsimp only
  rw [hn.1, hn.2]
theorem uvsE_ge : ∀ hs : List Nat, hs.length ≤ (uvsE hs).length
  | [] => Nat.zero_le _
  | h :: hs => by
    have ih := uvsE_ge hs
    have h1 : 0 < (Lib.uvarint h).length := by rw [Lib.uvarint]; split <;> simp
    have e : uvsE (h :: hs) = Lib.uvarint h ++ uvsE hs := by unfold uvsE; rw [List.flatMap_cons]
    rw [e, List.length_append, List.length_cons]
    omega
/-- Decode leads back. -/
theorem decA_of (p : Prf) (hp : PrfOK p) : decA (encP p) = some p := by
  have e : encP p = encR p.s ++ (hvsE p.l ++ (hvsE p.r ++ [])) := by unfold encP; simp only [List.append_assoc, List.append_nil]
  have h0 := qR_of p.s (hvsE p.l ++ (hvsE p.r ++ [])) (by have := hp.s; omega)
  have hll : p.l.length ≤ (encP p).length := by
    have := uvsE_ge p.l
    unfold encP hvsE; simp only [List.length_append]; omega
  have hlr : p.r.length ≤ (encP p).length := by
    have := uvsE_ge p.r
    unfold encP hvsE; simp only [List.length_append]; omega
  have h1 := decL_of (encP p).length p.l (hvsE p.r ++ []) hll hp.l hp.bl
  have h2 := decL_of (encP p).length p.r [] hlr hp.r hp.br
  rw [← e] at h0
  rw [decA_end (b := encP p) (by rw [h0]; exact h1) h2, h0]
  rfl
/-- Every error of a reader is another number than 0. -/
def RErr (st : RSt) : Prop := ∀ e, st = .error e → e ≠ 0
theorem uintGo_errQ : ∀ (l : List UInt8) (i n : Nat) (e : Int), uintGo i n l = .error e → e ≠ 0
  | [], i, n, e, h => by simp [uintGo] at h; omega
  | c :: l, i, n, e, h => by
    unfold uintGo at h
    split at h
    · simp at h; omega
    · split at h
      · cases h
      · exact uintGo_errQ l _ _ e h
theorem stU_err {st : RSt} (h : RErr st) : RErr (stU st).2 := by
  cases st with
  | error e => exact h
  | ok l =>
    unfold stU
    dsimp only
    cases hu : uintP l with
    | error e => exact fun e' he => by cases he; exact uintGo_errQ l 0 0 e hu
    | ok x => exact fun e' he => by cases he
theorem stR_err {st : RSt} (h : RErr st) : RErr (stR st).2 := by
  cases st with
  | error e => exact h
  | ok l =>
    unfold stR rawP
    dsimp only
    cases hu : uintP l with
    | error e => exact fun e' he => by cases he; exact uintGo_errQ l 0 0 e hu
    | ok x =>
      obtain ⟨n, l'⟩ := x
      dsimp only
      split
      · rename_i e he
        split at he
        · cases he; exact fun e' he' => by cases he'; decide
        · cases he
      · exact fun e' he => by cases he
theorem stS_err {st : RSt} (h : RErr st) : ∀ k, RErr (stS st k)
  | 0 => h
  | k + 1 => stU_err (stS_err h k)
theorem stU_back {st : RSt} {n : Nat} {l' : List UInt8} (h : stU st = (n, .ok l')) : st = .ok (Lib.uvarint n ++ l') := by
  cases st with
  | error e => simp [stU] at h
  | ok l =>
    unfold stU at h
    dsimp only at h
    cases hu : uintP l with
    | error e => rw [hu] at h; simp at h
    | ok x =>
      obtain ⟨m, r⟩ := x
      rw [hu] at h
      simp at h
      obtain ⟨rfl, rfl⟩ := h
      rw [← uintP_enc l r m hu]
theorem stS_back {st : RSt} : ∀ (k : Nat) (l' : List UInt8), stS st k = .ok l' → st = .ok (uvsE (nmS st k) ++ l')
  | 0, l', h => by rw [show st = .ok l' from h]; rfl
  | k + 1, l', h => by
    have h1 : stU (stS st k) = ((stU (stS st k)).1, .ok l') := Prod.ext rfl h
    have h2 := stS_back k _ (stU_back h1)
    rw [nmS_succ, uvsE_snoc, List.append_assoc]
    exact h2
theorem zig_unz (z : Nat) : Lib.zigzag (unz z) = z := by unfold unz Lib.zigzag; split <;> split <;> omega
theorem decL_back {lb : Nat} {st s2 : RSt} {l : List Nat} {r : List UInt8} (h : decL lb st = some (l, s2)) (hr : s2 = .ok r) : st = .ok (hvsE l ++ r) ∧ l.length ≤ lb ∧ ∀ h ∈ l, h < 18446744073709551616 := by
  by_cases hb : (stI st).1 < 0 ∨ (lb : Int) < (stI st).1
  · rw [decL_none hb] at h; cases h
  · obtain ⟨m, hm⟩ : ∃ m : Nat, (m : Int) = (stI st).1 := ⟨(stI st).1.toNat, by omega⟩
    rw [decL_some hm (by omega)] at h
    simp only [Option.some.injEq, Prod.mk.injEq] at h
    obtain ⟨h1, h2⟩ := h
    have h3 := stS_back m r (h2.trans hr)
    rw [h1] at h3
    have hlen : l.length = m := by rw [← h1, nmS_len]
    have h4 : stU st = ((stU st).1, .ok (uvsE l ++ r)) := Prod.ext rfl h3
    have h5 := stU_back h4
    have h6 : Lib.zigzag (m : Int) = (stU st).1 := by rw [hm]; exact zig_unz _
    refine ⟨?_, by omega, ?_⟩
    · rw [hvsE, PA.encI, hlen, h6, List.append_assoc]; exact h5
    · intro x hx
      rw [← h1] at hx
      simp only [nmS, List.mem_map] at hx
      obtain ⟨i, -, rfl⟩ := hx
      exact stU_lt _
theorem stR_back {st : RSt} {b l' : List UInt8} (h : stR st = (b, .ok l')) : st = .ok (encR b ++ l') := by
  cases st with
  | error e => simp [stR] at h
  | ok l =>
    unfold stR rawP at h
    dsimp only at h
    cases hu : uintP l with
    | error e => rw [hu] at h; simp at h
    | ok x =>
      obtain ⟨n, r⟩ := x
      rw [hu] at h
      dsimp only at h
      by_cases hn : r.length < n
      · rw [if_pos hn] at h; simp at h
      · rw [if_neg hn] at h
        simp at h
        obtain ⟨rfl, rfl⟩ := h
        rw [uintP_enc l r n hu, encR, List.length_take, Nat.min_eq_left (by omega), List.append_assoc, List.take_append_drop]
/-- What is read is written as it was. -/
theorem decA_back {b : List UInt8} {p : Prf} (h : decA b = some p) (hb : b.length ≤ 1000000) : encP p = b ∧ PrfOK p := by
  cases h1 : decL b.length (stR (.ok b)).2 with
  | none => rw [decA_none1 h1] at h; cases h
  | some x =>
    obtain ⟨l, s2⟩ := x
    cases h2 : decL b.length s2 with
    | none => rw [decA_none2 h1 h2] at h; cases h
    | some y =>
      obtain ⟨r, s3⟩ := y
      rw [decA_end h1 h2] at h
      by_cases he : stE s3 = 0
      · rw [if_neg (by simpa using he)] at h
        cases h
        have hE0 : RErr (.ok b) := fun e he => by cases he
        have hErr : ∀ {lb st l s}, RErr st → decL lb st = some (l, s) → RErr s := by
          intro lb st l s hst hd
          unfold decL at hd
          split at hd
          · cases hd
          · cases hd; exact stS_err (stU_err hst) _
        have hE3 : RErr s3 := hErr (hErr (stR_err hE0) h1) h2
        have hs3 : s3 = .ok [] := by
          cases s3 with
          | error e => exact absurd he (hE3 e rfl)
          | ok t => cases t with
            | nil => rfl
            | cons a t => simp [stE] at he
        obtain ⟨e2, n2, b2⟩ := decL_back h2 hs3
        obtain ⟨e1, n1, b1⟩ := decL_back h1 e2
        have e0 := stR_back (st := .ok b) (b := (stR (.ok b)).1) (l' := hvsE l ++ (hvsE r ++ [])) (Prod.ext rfl e1)
        have e0' : b = encR (stR (.ok b)).1 ++ (hvsE l ++ (hvsE r ++ [])) := by
          have := e0
          simp only [Except.ok.injEq] at this
          exact this
        refine ⟨?_, ?_⟩
        · unfold encP
          dsimp only
          rw [List.append_nil] at e0'
          rw [List.append_assoc]
          exact e0'.symm
        · refine ⟨by dsimp only; omega, by dsimp only; omega, ?_, b1, b2⟩
          have h9 := congrArg List.length e0'
          simp only [List.length_append, encR] at h9
          dsimp only
          omega
      · rw [if_pos he] at h; cases h
end Go.Proofs.YtcmjbjlliehdiaaDoor
