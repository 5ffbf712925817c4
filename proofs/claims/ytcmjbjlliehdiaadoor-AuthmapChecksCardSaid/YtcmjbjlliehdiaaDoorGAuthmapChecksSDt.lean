/- The hash and the numbers of the wire, what changes with one byte: plain. -/
import Derived.Test.YtcmjbjlliehdiaaDoorGAuthmapChecks0
import Derived.Test.YtcmjbjlliehdiaaDoorGAuthmapChecks24
namespace PA
open Go
def invN : Nat := 17428512612931826493
theorem mul_inj (a b : Nat) (ha : a < 18446744073709551616) (hb : b < 18446744073709551616) (h : a * mulN % 18446744073709551616 = b * mulN % 18446744073709551616) : a = b := by
  have key : ∀ x, x < 18446744073709551616 → (x * mulN % 18446744073709551616) * invN % 18446744073709551616 = x := by
    intro x hx
    rw [Nat.mod_mul_mod, Nat.mul_assoc, show mulN * invN = 18446744073709551616 * 10771413168148108919 + 1 by decide, Nat.mul_add, Nat.mul_one, ← Nat.mul_assoc, Nat.mul_comm x, Nat.mul_assoc, Nat.mul_add_mod]
    exact Nat.mod_eq_of_lt hx
  rw [← key a ha, ← key b hb, h]
theorem fold_inv (m : Nat) (hm : m < 18446744073709551616) : (m ^^^ (m / 4294967296)) ^^^ ((m ^^^ (m / 4294967296)) / 4294967296) = m := by
  have e : ∀ x : Nat, x / 4294967296 = x >>> 32 := fun x => by rw [Nat.shiftRight_eq_div_pow]
  rw [e, e, Nat.shiftRight_xor_distrib, ← Nat.shiftRight_add]
  have h0 : m >>> (32 + 32) = 0 := by rw [Nat.shiftRight_eq_div_pow]; exact Nat.div_eq_of_lt hm
  rw [h0, Nat.xor_zero, Nat.xor_assoc, Nat.xor_self, Nat.xor_zero]
theorem mixN_inj (s x s' x' : Nat) (h1 : s < 18446744073709551616) (h2 : x < 18446744073709551616) (h3 : s' < 18446744073709551616) (h4 : x' < 18446744073709551616) (h : mixN s x = mixN s' x') : s ^^^ x = s' ^^^ x' := by
  have hm : ∀ y : Nat, y % 18446744073709551616 < 18446744073709551616 := fun y => Nat.mod_lt _ (by decide)
  have h5 := congrArg (fun m => m ^^^ (m / 4294967296)) h
  simp only [mixN] at h5
  rw [fold_inv _ (hm _), fold_inv _ (hm _)] at h5
  exact mul_inj _ _ (xor_lt64 _ _ h1 h2) (xor_lt64 _ _ h3 h4) h5
theorem xor_cancel (a b c : Nat) (h : a ^^^ b = a ^^^ c) : b = c := by
  have := congrArg (a ^^^ ·) h
  simpa [← Nat.xor_assoc] using this
theorem mixN_left (s s' x : Nat) (h1 : s < 18446744073709551616) (h2 : x < 18446744073709551616) (h3 : s' < 18446744073709551616) (h : mixN s x = mixN s' x) : s = s' := by
  have := mixN_inj s x s' x h1 h2 h3 h2 h
  rw [Nat.xor_comm s, Nat.xor_comm s'] at this
  exact xor_cancel _ _ _ this
theorem mixN_right (s x x' : Nat) (h1 : s < 18446744073709551616) (h2 : x < 18446744073709551616) (h3 : x' < 18446744073709551616) (h : mixN s x = mixN s x') : x = x' :=
  xor_cancel _ _ _ (mixN_inj s x s x' h1 h2 h1 h3 h)
theorem foldl_mix_inj : ∀ (l : List Nat) (s s' : Nat), (∀ x ∈ l, x < 18446744073709551616) → s < 18446744073709551616 → s' < 18446744073709551616 → l.foldl mixN s = l.foldl mixN s' → s = s'
  | [], _, _, _, _, _, h => h
  | x :: l, s, s', hl, h1, h2, h =>
    mixN_left s s' x h1 (hl x (by simp)) h2 (foldl_mix_inj l _ _ (fun y hy => hl y (by simp [hy])) (mixN_lt _ _) (mixN_lt _ _) h)
/-- Two lists of words that differ in one place have other sums. -/
theorem sumU_set (label : List UInt8) (pre post : List Nat) (x y : Nat) (hp : ∀ z ∈ pre, z < 18446744073709551616) (hq : ∀ z ∈ post, z < 18446744073709551616) (hx : x < 18446744073709551616) (hy : y < 18446744073709551616) (h : sumU label (pre ++ x :: post) = sumU label (pre ++ y :: post)) : x = y := by
  unfold sumU at h
  have e : (pre ++ x :: post).length = (pre ++ y :: post).length := by simp
  rw [e] at h
  have hs0 := mixN_lt (mixN ((wordsN label).foldl mixN 0) label.length) (pre ++ y :: post).length
  generalize mixN (mixN ((wordsN label).foldl mixN 0) label.length) (pre ++ y :: post).length = s0 at h hs0
  have hs1 : pre.foldl mixN s0 < 18446744073709551616 := foldl_mix_lt pre s0 hs0
  have h1 := mixN_left _ _ 0 (foldl_mix_lt _ s0 hs0) (by omega) (foldl_mix_lt _ s0 hs0) h
  rw [List.foldl_append, List.foldl_append, List.foldl_cons, List.foldl_cons] at h1
  have h2 := foldl_mix_inj post _ _ hq (mixN_lt _ _) (mixN_lt _ _) h1
  exact mixN_right _ _ _ hs1 hx hy h2
theorem leN_inj : ∀ (a b : List UInt8), a.length = b.length → leN a = leN b → a = b
  | [], [], _, _ => rfl
  | x :: a, y :: b, hl, h => by
    simp only [leN] at h
    have hx := x.toNat_lt
    have hy := y.toNat_lt
    have h1 : x.toNat = y.toNat := by omega
    have h2 : leN a = leN b := by omega
    rw [leN_inj a b (by simpa using hl) h2, UInt8.toNat_inj.1 h1]
  | [], _ :: _, h, _ => by simp at h
  | _ :: _, [], h, _ => by simp at h
/-- Bytes of one length that differ in one place have other hashes. -/
theorem bytesN_set (label b : List UInt8) (k : Nat) (c : UInt8) (hk : k < b.length) (hb : b.length < 18446744073709551616) (hc : c ≠ b[k]) : bytesN label (b.set k c) ≠ bytesN label b := by
  intro h
  unfold bytesN at h
  have hl : (b.set k c).length = b.length := by simp
  rw [hl] at h
  have hj : k / 8 < (b.length + 7) / 8 := by omega
  have hsplit : ∀ l : List UInt8, l.length = b.length → wordsN l = (List.range (k / 8)).map (wordN l) ++ wordN l (k / 8) :: (List.range' (k / 8 + 1) ((b.length + 7) / 8 - (k / 8 + 1))).map (wordN l) := by
    intro l hl
    rw [wordsN, hl]
    have : List.range ((b.length + 7) / 8) = List.range (k / 8) ++ (k / 8) :: List.range' (k / 8 + 1) ((b.length + 7) / 8 - (k / 8 + 1)) := by
      rw [List.range_eq_range', List.range_eq_range']
      have h1 : (b.length + 7) / 8 = k / 8 + (1 + ((b.length + 7) / 8 - (k / 8 + 1))) := by omega
      conv => lhs; rw [h1]
      rw [← List.range'_append, Nat.add_comm 1, List.range'_succ]
      simp
    rw [this, List.map_append, List.map_cons]
  have hother : ∀ i, i ≠ k / 8 → wordN (b.set k c) i = wordN b i := by
    intro i hi
    unfold wordN
    congr 1
    rw [List.drop_set]
    split
    · rfl
    · rw [List.take_set, List.set_eq_of_length_le]
      rw [List.length_take]
      omega
  rw [hsplit _ hl, hsplit _ rfl, List.append_assoc, List.append_assoc, List.cons_append, List.cons_append] at h
  have e1 : (List.range (k / 8)).map (wordN (b.set k c)) = (List.range (k / 8)).map (wordN b) := List.map_congr_left fun i hi => hother i (by have := List.mem_range.1 hi; omega)
  have e2 : (List.range' (k / 8 + 1) ((b.length + 7) / 8 - (k / 8 + 1))).map (wordN (b.set k c)) = (List.range' (k / 8 + 1) ((b.length + 7) / 8 - (k / 8 + 1))).map (wordN b) := List.map_congr_left fun i hi => hother i (by have := (List.mem_range'_1.1 hi).1; omega)
  rw [e1, e2] at h
  have hw := sumU_set label _ _ _ _ (fun z hz => by obtain ⟨i, _, rfl⟩ := List.mem_map.1 hz; exact wordN_lt _ _) (fun z hz => by
    rcases List.mem_append.1 hz with hz | hz
    · obtain ⟨i, _, rfl⟩ := List.mem_map.1 hz; exact wordN_lt _ _
    · simp at hz; omega) (wordN_lt _ _) (wordN_lt _ _) h
  unfold wordN at hw
  have h5 := leN_inj _ _ (by simp) hw
  have h6 : (((b.set k c).drop (8 * (k / 8))).take 8)[k % 8]? = ((b.drop (8 * (k / 8))).take 8)[k % 8]? := by rw [h5]
  have hm : k % 8 < 8 := Nat.mod_lt _ (by decide)
  rw [List.getElem?_take, List.getElem?_take, if_pos hm, if_pos hm, List.getElem?_drop, List.getElem?_drop, show 8 * (k / 8) + k % 8 = k by omega, List.getElem?_set_self hk, List.getElem?_eq_getElem hk] at h6
  exact hc (by simpa using h6)
/-- A number that is read was written so. -/
theorem uintGo_enc : ∀ (l : List UInt8) (i n m : Nat) (r : List UInt8), uintGo i n l = .ok (m, r) → ∃ q, m = n + q * 128 ^ i ∧ l = Lib.uvarint q ++ r ∧ (0 < i → 0 < q)
  | [], i, n, m, r, h => by simp [uintGo] at h
  | c :: l, i, n, m, r, h => by
    have hc := c.toNat_lt
    unfold uintGo at h
    split at h
    · cases h
    · rename_i hbad
      split at h
      · rename_i hs
        cases h
        refine ⟨c.toNat, rfl, ?_, fun hi => by omega⟩
        rw [Lib.uvarint_small hs]
        simp
      · rename_i hs
        obtain ⟨q, h1, h2, h3⟩ := uintGo_enc l (i + 1) _ m r h
        refine ⟨c.toNat - 128 + 128 * q, ?_, ?_, fun _ => by have := h3 (by omega); omega⟩
        · rw [h1, Nat.add_mul, Nat.pow_succ, Nat.mul_assoc 128 q, Nat.mul_comm 128 (q * 128 ^ i), Nat.mul_assoc q, Nat.add_assoc]
        · have hq := h3 (by omega)
          rw [Lib.uvarint_big (by omega), h2]
          have e1 : (c.toNat - 128 + 128 * q) / 128 = q := by omega
          have e2 : ((c.toNat - 128 + 128 * q) % 128 + 128).toUInt8 = c := by
            apply UInt8.toNat_inj.1
            simp; omega
          rw [e1, e2]; rfl
/-- What was written is read. -/
theorem uintGo_of : ∀ (k : Nat) (i n q : Nat) (r : List UInt8), i + k = 9 → q < 2 * 128 ^ k → (0 < i → 0 < q) → uintGo i n (Lib.uvarint q ++ r) = .ok (n + q * 128 ^ i, r)
  | 0, i, n, q, r, hi, hq, hp => by
    rw [Lib.uvarint_small (by omega)]
    have hq1 : q.toUInt8.toNat = q := by simp; omega
    show uintGo i n (q.toUInt8 :: r) = _
    rw [uintGo, if_neg (by rw [hq1]; have := hp (by omega); omega), if_pos (by rw [hq1]; omega), hq1]
  | k + 1, i, n, q, r, hi, hq, hp => by
    by_cases hs : q < 128
    · rw [Lib.uvarint_small hs]
      have hq1 : q.toUInt8.toNat = q := by simp; omega
      show uintGo i n (q.toUInt8 :: r) = _
      rw [uintGo, if_neg (by rw [hq1]; omega), if_pos (by rw [hq1]; exact hs), hq1]
    · rw [Lib.uvarint_big (by omega), List.cons_append]
      have hq1 : (q % 128 + 128).toUInt8.toNat = q % 128 + 128 := by simp; omega
      rw [uintGo, if_neg (by rw [hq1]; omega), if_neg (by rw [hq1]; omega), hq1]
      rw [uintGo_of k (i + 1) _ (q / 128) r (by omega) (by rw [Nat.pow_succ] at hq; omega) (fun _ => by omega)]
      have e : (q % 128 + 128 - 128) * 128 ^ i + q / 128 * 128 ^ (i + 1) = q * 128 ^ i := by
        rw [Nat.pow_succ, Nat.add_sub_cancel]
        generalize 128 ^ i = P
        have h1 : q / 128 * (P * 128) = (128 * (q / 128)) * P := by rw [Nat.mul_comm P 128, ← Nat.mul_assoc, Nat.mul_comm (q / 128) 128]
        rw [h1, ← Nat.add_mul, Nat.mod_add_div]
      rw [Nat.add_assoc, e]
theorem uintP_of (q : Nat) (r : List UInt8) (hq : q < 18446744073709551616) : uintP (Lib.uvarint q ++ r) = .ok (q, r) := by
  have h9 : (2 : Nat) * 128 ^ 9 = 18446744073709551616 := by decide
  have := uintGo_of 9 0 0 q r rfl (by rw [h9]; exact hq) (fun h => absurd h (Nat.lt_irrefl 0))
  rw [Nat.pow_zero, Nat.mul_one, Nat.zero_add] at this
  exact this
theorem uintP_enc (l r : List UInt8) (m : Nat) (h : uintP l = .ok (m, r)) : l = Lib.uvarint m ++ r := by
  obtain ⟨q, h1, h2, _⟩ := uintGo_enc l 0 0 m r h
  rw [h2]
  have : m = q := by simpa using h1
  rw [this]
theorem rawP_of (b r : List UInt8) (hb : b.length < 18446744073709551616) : rawP (encR b ++ r) = .ok (b, r) := by
  unfold rawP encR
  rw [List.append_assoc, uintP_of _ _ hb]
  simp
end PA
