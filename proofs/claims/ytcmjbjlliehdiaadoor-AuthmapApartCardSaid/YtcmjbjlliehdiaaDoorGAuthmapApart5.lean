/- The authenticated map in plain: the hashes of its blocks, what lies outside a range. No program in sight. -/
import Derived.Test.YtcmjbjlliehdiaaDoorGAuthmapApart0
import Derived.Test.YtcmjbjlliehdiaaDoorGAuthmapApart4
namespace PA
open Go Go.RowKit
def pairL : List UInt8 := [112, 97, 105, 114]
def valueL : List UInt8 := [118, 97, 108, 117, 101]
def blockL : List UInt8 := [98, 108, 111, 99, 107]
def leafN (k : Int) (v : List UInt8) : Nat := sumN pairL [k, (v.length : Int), wrap64 ((bytesN valueL v : Nat) : Int)]
def nodeN (a b : Nat) : Nat := sumN blockL [wrap64 (a : Int), wrap64 (b : Int)]
def joinN : Option Nat → Option Nat → Option Nat
  | none, none => none
  | a, b => some (nodeN (a.getD 0) (b.getD 0))
abbrev KVs := Int → Option (List UInt8)
/-- The hash of the block of the keys from n * 2^l on, as many as 2^l. -/
def hbN (M : KVs) : Nat → Int → Option Nat
  | 0, n => (M n).map (leafN n)
  | l + 1, n => joinN (hbN M l (2 * n)) (hbN M l (2 * n + 1))
theorem leafN_lt (k : Int) (v : List UInt8) : leafN k v < 18446744073709551616 := sumU_lt _ _
theorem nodeN_lt (a b : Nat) : nodeN a b < 18446744073709551616 := sumU_lt _ _
theorem joinN_lt (a b : Option Nat) : ∀ h, joinN a b = some h → h < 18446744073709551616 := by
  intro h e
  cases a <;> cases b <;> simp only [joinN, Option.some.injEq, reduceCtorEq] at e <;> subst e <;> exact nodeN_lt _ _
theorem hbN_lt (M : KVs) (l : Nat) (n : Int) : ∀ h, hbN M l n = some h → h < 18446744073709551616 := by
  intro h e
  cases l with
  | zero =>
    rw [hbN, Option.map_eq_some_iff] at e
    obtain ⟨v, -, rfl⟩ := e
    exact leafN_lt _ _
  | succ l => exact joinN_lt _ _ h e
theorem pow_pos2 (l : Nat) : (0 : Int) < 2 ^ l := Int.pow_pos (by decide)
/-- Key k lies in block n of level l. -/
def inB (l : Nat) (n k : Int) : Prop := n * 2 ^ l ≤ k ∧ k < (n + 1) * 2 ^ l
theorem inB_succ (l : Nat) (n k : Int) : inB (l + 1) n k ↔ inB l (2 * n) k ∨ inB l (2 * n + 1) k := by
  unfold inB
  have e1 : n * 2 ^ (l + 1) = 2 * n * 2 ^ l := by rw [Int.pow_succ, Int.mul_comm (2 ^ l) 2, ← Int.mul_assoc, Int.mul_comm n 2]
  have e2 : (n + 1) * 2 ^ (l + 1) = (2 * n + 1 + 1) * 2 ^ l := by rw [Int.pow_succ, Int.mul_comm (2 ^ l) 2, ← Int.mul_assoc]; congr 1; omega
  have e3 : (2 * n + 1) * 2 ^ l = 2 * n * 2 ^ l + 2 ^ l := by rw [Int.add_mul, Int.one_mul]
  have e4 : (2 * n + 1 + 1) * 2 ^ l = 2 * n * 2 ^ l + 2 ^ l + 2 ^ l := by rw [Int.add_mul, Int.one_mul, e3]
  have hp := pow_pos2 l
  rw [e1, e2, e4, e3]
  generalize 2 * n * 2 ^ l = x at *
  generalize (2 : Int) ^ l = p at *
  omega
theorem inB_zero (n k : Int) : inB 0 n k ↔ k = n := by unfold inB; simp; omega
theorem hbN_same {M M' : KVs} : ∀ (l : Nat) (n : Int), (∀ k, inB l n k → M k = M' k) → hbN M l n = hbN M' l n
  | 0, n, h => by rw [hbN, hbN, h n ((inB_zero n n).2 rfl)]
  | l + 1, n, h => by
    rw [hbN, hbN, hbN_same l (2 * n) fun k hk => h k ((inB_succ l n k).2 (.inl hk)), hbN_same l (2 * n + 1) fun k hk => h k ((inB_succ l n k).2 (.inr hk))]
theorem joinN_none {a b : Option Nat} : joinN a b = none ↔ a = none ∧ b = none := by cases a <;> cases b <;> simp [joinN]
theorem hbN_none {M : KVs} : ∀ (l : Nat) (n : Int), hbN M l n = none ↔ ∀ k, inB l n k → M k = none
  | 0, n => by
    rw [hbN, Option.map_eq_none_iff]
    constructor
    · intro h k hk; rw [(inB_zero n k).1 hk]; exact h
    · intro h; exact h n ((inB_zero n n).2 rfl)
  | l + 1, n => by
    rw [hbN, joinN_none, hbN_none l, hbN_none l]
    constructor
    · rintro ⟨h1, h2⟩ k hk
      rcases (inB_succ l n k).1 hk with hk | hk
      · exact h1 k hk
      · exact h2 k hk
    · intro h
      exact ⟨fun k hk => h k ((inB_succ l n k).2 (.inl hk)), fun k hk => h k ((inB_succ l n k).2 (.inr hk))⟩
/-- In which block of a level a key lies. -/
def atB (k : Int) (l : Nat) : Int := k / 2 ^ l
theorem inB_at (k : Int) (l : Nat) : inB l (atB k l) k := by
  unfold inB atB
  have hp := pow_pos2 l
  have h1 := Int.mul_ediv_add_emod k (2 ^ l)
  have h2 := Int.emod_nonneg k (show (2 : Int) ^ l ≠ 0 by omega)
  have h3 := Int.emod_lt_of_pos k hp
  have e : (k / 2 ^ l + 1) * 2 ^ l = 2 ^ l * (k / 2 ^ l) + 2 ^ l := by rw [Int.add_mul, Int.one_mul, Int.mul_comm]
  rw [e, Int.mul_comm (k / 2 ^ l)]
  omega
theorem inB_uniq {l : Nat} {n m k : Int} (h1 : inB l n k) (h2 : inB l m k) : n = m := by
  unfold inB at h1 h2
  have hp := pow_pos2 l
  have a1 : n * 2 ^ l < (m + 1) * 2 ^ l := by omega
  have a2 : m * 2 ^ l < (n + 1) * 2 ^ l := by omega
  have b1 := Int.lt_of_mul_lt_mul_right a1 (by omega)
  have b2 := Int.lt_of_mul_lt_mul_right a2 (by omega)
  omega
theorem atB_zero (k : Int) : atB k 0 = k := by simp [atB]
theorem atB_succ (k : Int) (l : Nat) : atB k (l + 1) = atB k l / 2 := by
  unfold atB
  rw [Int.pow_succ, Int.ediv_ediv_of_nonneg (by have := pow_pos2 l; omega)]
theorem hbN_put {M : KVs} {k : Int} (v : Option (List UInt8)) {l : Nat} {n : Int} (h : n ≠ atB k l) : hbN (fset M k v) l n = hbN M l n :=
  hbN_same l n fun j hj => by
    unfold fset
    rw [if_neg (fun e => h (by subst e; exact inB_uniq hj (inB_at _ l)))]
def hv (h : Nat) : Value := .int .u64 (h : Nat)
/-- The map of the hashes while level lv and those above it are still to be put right. -/
def hmP (M M' : KVs) (lv : Nat) : Nat × Int → Option Value := fun x => if x.1 ≤ 12 then (if x.1 < lv then hbN M' x.1 x.2 else hbN M x.1 x.2).map hv else none
def hmF (M : KVs) : Nat × Int → Option Value := fun x => if x.1 ≤ 12 then (hbN M x.1 x.2).map hv else none
theorem hmP_zero (M M' : KVs) : hmP M M' 0 = hmF M := by funext x; simp [hmP, hmF]
theorem hmP_end (M M' : KVs) : hmP M M' 13 = hmF M' := by
  funext x
  unfold hmP hmF
  split
  · rw [if_pos (by omega)]
  · rfl
theorem hmP_step (M : KVs) (k : Int) (v : Option (List UInt8)) (lv : Nat) (hl : lv ≤ 12) :
    gset (hmP M (fset M k v) lv) (lv, atB k lv) ((hbN (fset M k v) lv (atB k lv)).map hv) = hmP M (fset M k v) (lv + 1) := by
  funext ⟨l, n⟩
  by_cases e : (l, n) = (lv, atB k lv)
  · obtain ⟨rfl, rfl⟩ := Prod.mk.inj e
    rw [gset_same, hmP, if_pos hl, if_pos (Nat.lt_succ_self _)]
  · rw [gset_other _ _ e, hmP, hmP]
    dsimp only
    split
    · by_cases h1 : l < lv
      · rw [if_pos h1, if_pos (by omega)]
      · by_cases h2 : l < lv + 1
        · obtain rfl : l = lv := by omega
          rw [if_neg h1, if_pos h2, hbN_put v (fun h => e (by rw [h]))]
        · rw [if_neg h1, if_neg h2]
    · rfl
theorem hmP_at (M M' : KVs) (lv l : Nat) (n : Int) (hl : l ≤ 12) : hmP M M' lv (l, n) = (if l < lv then hbN M' l n else hbN M l n).map hv := by
  rw [hmP]; dsimp only; rw [if_pos hl]
/-! ### outside of a range -/
def bFirst (x : Nat × Int) : Int := x.2 * 2 ^ x.1
def bLast (x : Nat × Int) : Int := (x.2 + 1) * 2 ^ x.1 - 1
def outL (a b : Int) : Nat → Int → List (Nat × Int)
  | 0, n => if bLast (0, n) < a ∨ b < bFirst (0, n) then [(0, n)] else []
  | l + 1, n => if bLast (l + 1, n) < a ∨ b < bFirst (l + 1, n) then [(l + 1, n)] else if a ≤ bFirst (l + 1, n) ∧ bLast (l + 1, n) ≤ b then [] else outL a b l (2 * n) ++ outL a b l (2 * n + 1)
theorem outL_out {a b : Int} {l : Nat} {n : Int} (h : bLast (l, n) < a ∨ b < bFirst (l, n)) : outL a b l n = [(l, n)] := by
  cases l <;> rw [outL, if_pos h]
theorem outL_in {a b : Int} {l : Nat} {n : Int} (h : ¬ (bLast (l, n) < a ∨ b < bFirst (l, n))) (h2 : a ≤ bFirst (l, n) ∧ bLast (l, n) ≤ b) : outL a b l n = [] := by
  cases l
  · rw [outL, if_neg h]
  · rw [outL, if_neg h, if_pos h2]
theorem outL_halves {a b : Int} {l : Nat} {n : Int} (h : ¬ (bLast (l + 1, n) < a ∨ b < bFirst (l + 1, n))) (h2 : ¬ (a ≤ bFirst (l + 1, n) ∧ bLast (l + 1, n) ≤ b)) : outL a b (l + 1) n = outL a b l (2 * n) ++ outL a b l (2 * n + 1) := by
  rw [outL, if_neg h, if_neg h2]
theorem bzero {a b n : Int} (h : ¬ (bLast (0, n) < a ∨ b < bFirst (0, n))) : a ≤ bFirst (0, n) ∧ bLast (0, n) ≤ b := by
  unfold bLast bFirst at *
  simp at *
  omega
theorem outL_length (a b : Int) : ∀ (l : Nat) (n : Int), (outL a b l n).length ≤ 2 ^ l
  | 0, n => by rw [outL]; split <;> simp
  | l + 1, n => by
    have h1 := outL_length a b l (2 * n)
    have h2 := outL_length a b l (2 * n + 1)
    have hp : 0 < 2 ^ l := Nat.pow_pos (by decide)
    rw [outL]
    split
    · simp only [List.length_singleton, Nat.pow_succ]; omega
    · split
      · simp
      · rw [List.length_append, Nat.pow_succ]; omega
/-- The blocks of the tree. -/
def inT (l : Nat) (n : Int) : Prop := l ≤ 12 ∧ 0 ≤ n ∧ (n + 1) * 2 ^ l ≤ 4096
theorem inT_top : inT 12 0 := ⟨by omega, by omega, by decide⟩
theorem inT_half {l : Nat} {n : Int} (h : inT (l + 1) n) : inT l (2 * n) ∧ inT l (2 * n + 1) := by
  obtain ⟨h1, h2, h3⟩ := h
  have e2 : (n + 1) * 2 ^ (l + 1) = (2 * n + 1 + 1) * 2 ^ l := by rw [Int.pow_succ, Int.mul_comm (2 ^ l) 2, ← Int.mul_assoc]; congr 1; omega
  have hp := pow_pos2 l
  rw [e2] at h3
  have e3 : (2 * n + 1 + 1) * 2 ^ l = (2 * n + 1) * 2 ^ l + 2 ^ l := by rw [Int.add_mul, Int.one_mul]
  exact ⟨⟨by omega, by omega, by omega⟩, by omega, by omega, h3⟩
theorem inT_bounds {l : Nat} {n : Int} (h : inT l n) : l ≤ 12 ∧ 0 ≤ n ∧ n ≤ 4095 ∧ 0 ≤ bFirst (l, n) ∧ bFirst (l, n) ≤ bLast (l, n) ∧ bLast (l, n) ≤ 4095 := by
  obtain ⟨h1, h2, h3⟩ := h
  have hp := pow_pos2 l
  have e3 : (n + 1) * 2 ^ l = n * 2 ^ l + 2 ^ l := by rw [Int.add_mul, Int.one_mul]
  have h4 : 0 ≤ n * 2 ^ l := Int.mul_nonneg h2 (by omega)
  have h5 : n ≤ n * 2 ^ l := by
    have := Int.mul_le_mul_of_nonneg_left (show (1 : Int) ≤ 2 ^ l by omega) h2
    omega
  unfold bFirst bLast
  dsimp only
  refine ⟨h1, h2, ?_, h4, ?_, ?_⟩ <;> omega
theorem outL_inT (a b : Int) : ∀ (l : Nat) (n : Int), inT l n → ∀ x ∈ outL a b l n, inT x.1 x.2
  | 0, n, h, x, hx => by
    rw [outL] at hx
    split at hx
    · rw [List.mem_singleton.1 hx]; exact h
    · cases hx
  | l + 1, n, h, x, hx => by
    rw [outL] at hx
    split at hx
    · rw [List.mem_singleton.1 hx]; exact h
    · split at hx
      · cases hx
      · rcases List.mem_append.1 hx with hx | hx
        · exact outL_inT a b l _ (inT_half h).1 x hx
        · exact outL_inT a b l _ (inT_half h).2 x hx
end PA
/- The reference's map in plain: pairs in increasing order of their keys. -/
namespace PA
open Go
abbrev PrL := List (Int × List UInt8)
def lkP : PrL → Int → Option (List UInt8)
  | [], _ => none
  | x :: l, k => if k = x.1 then some x.2 else lkP l k
def fndP : PrL → Int → Nat
  | [], _ => 0
  | x :: l, k => if x.1 < k then fndP l k + 1 else 0
def AscP (L : PrL) : Prop := (L.map (·.1)).Pairwise (· < ·)
/-- Is the key there? -/
def hasP (L : PrL) (k : Int) : Bool := if h : fndP L k < L.length then decide (L[fndP L k].1 = k) else false
def setP (L : PrL) (k : Int) (v : List UInt8) : PrL := L.take (fndP L k) ++ (k, v) :: L.drop (if hasP L k = true then fndP L k + 1 else fndP L k)
theorem fndP_le : ∀ (L : PrL) (k : Int), fndP L k ≤ L.length
  | [], _ => Nat.le_refl _
  | x :: l, k => by
    unfold fndP
    split
    · have := fndP_le l k; simp; omega
    · simp
theorem fndP_lt : ∀ (L : PrL) (k : Int) (i : Nat) (hi : i < L.length), i < fndP L k → L[i].1 < k
  | [], _, _, hi, _ => by simp at hi
  | x :: l, k, i, hi, h => by
    unfold fndP at h
    split at h
    · rename_i hx
      cases i with
      | zero => exact hx
      | succ i => exact fndP_lt l k i (by simpa using hi) (by omega)
    · omega
theorem fndP_ge : ∀ (L : PrL) (k : Int) (h : fndP L k < L.length), ¬ L[fndP L k].1 < k
  | [], _, h => by simp at h
  | x :: l, k, h => by
    by_cases hx : x.1 < k
    · have e : fndP (x :: l) k = fndP l k + 1 := by rw [fndP, if_pos hx]
      simp only [e, List.getElem_cons_succ]
      exact fndP_ge l k (by rw [e] at h; simpa using h)
    · have e : fndP (x :: l) k = 0 := by rw [fndP, if_neg hx]
      simp only [e, List.getElem_cons_zero]
      exact hx
theorem AscP.cons {x : Int × List UInt8} {l : PrL} (h : AscP (x :: l)) : (∀ y ∈ l, x.1 < y.1) ∧ AscP l := by
  have := List.pairwise_cons.1 h
  exact ⟨fun y hy => this.1 _ (List.mem_map.2 ⟨y, hy, rfl⟩), this.2⟩
theorem lkP_none : ∀ {L : PrL} {k : Int}, (∀ x ∈ L, x.1 ≠ k) → lkP L k = none
  | [], _, _ => rfl
  | x :: l, k, h => by
    rw [lkP, if_neg (fun e => h x (by simp) e.symm)]
    exact lkP_none fun y hy => h y (by simp [hy])
theorem hasP_cons_lt {x : Int × List UInt8} {l : PrL} {k : Int} (h : x.1 < k) : hasP (x :: l) k = hasP l k := by
  have e : fndP (x :: l) k = fndP l k + 1 := by rw [fndP, if_pos h]
  unfold hasP
  simp only [e, List.length_cons, Nat.add_lt_add_iff_right, List.getElem_cons_succ]
theorem hasP_cons_ge {x : Int × List UInt8} {l : PrL} {k : Int} (h : ¬ x.1 < k) : hasP (x :: l) k = decide (x.1 = k) := by
  have e : fndP (x :: l) k = 0 := by rw [fndP, if_neg h]
  unfold hasP
  simp only [e, List.length_cons, Nat.zero_lt_succ, dite_true, List.getElem_cons_zero]
theorem setP_cons_lt {x : Int × List UInt8} {l : PrL} {k : Int} (v : List UInt8) (h : x.1 < k) : setP (x :: l) k v = x :: setP l k v := by
  have e : fndP (x :: l) k = fndP l k + 1 := by rw [fndP, if_pos h]
  unfold setP
  rw [hasP_cons_lt h, e]
  split <;> simp
theorem setP_cons_ge {x : Int × List UInt8} {l : PrL} {k : Int} (v : List UInt8) (h : ¬ x.1 < k) : setP (x :: l) k v = if x.1 = k then (k, v) :: l else (k, v) :: x :: l := by
  have e : fndP (x :: l) k = 0 := by rw [fndP, if_neg h]
  unfold setP
  rw [hasP_cons_ge h, e]
  by_cases hx : x.1 = k
  · simp [hx]
  · simp [hx]
theorem hasP_lk : ∀ {L : PrL}, AscP L → ∀ k, hasP L k = (lkP L k).isSome
  | [], _, k => by simp [hasP, lkP]
  | x :: l, h, k => by
    by_cases hx : x.1 < k
    · rw [hasP_cons_lt hx, hasP_lk h.cons.2 k, lkP, if_neg (by omega)]
    · rw [hasP_cons_ge hx, lkP]
      by_cases hk : x.1 = k
      · rw [if_pos hk.symm]; simp [hk]
      · rw [if_neg (fun e => hk e.symm), lkP_none fun y hy => by have := h.cons.1 y hy; omega]; simp [hk]
theorem setP_lk (v : List UInt8) (k : Int) : ∀ {L : PrL}, AscP L → lkP (setP L k v) = fset (lkP L) k (some v)
  | [], _ => by funext j; simp [setP, fndP, lkP, fset]
  | x :: l, h => by
    by_cases hx : x.1 < k
    · rw [setP_cons_lt v hx]
      funext j
      have ih := congrFun (setP_lk v k h.cons.2) j
      simp only [lkP, ih, fset]
      by_cases hj : j = x.1
      · rw [if_pos hj, if_neg (by omega), if_pos hj]
      · rw [if_neg hj, if_neg hj]
    · rw [setP_cons_ge v hx]
      funext j
      split
      · rename_i he
        simp only [lkP, fset]
        by_cases hj : j = k
        · rw [if_pos hj, if_pos hj]
        · rw [if_neg hj, if_neg hj, if_neg (by omega)]
      · simp only [lkP, fset]
theorem setP_mem (v : List UInt8) (k : Int) {L : PrL} {y : Int × List UInt8} (h : y ∈ setP L k v) : y = (k, v) ∨ y ∈ L := by
  unfold setP at h
  rcases List.mem_append.1 h with h | h
  · exact .inr (List.mem_of_mem_take h)
  · rcases List.mem_cons.1 h with h | h
    · exact .inl h
    · exact .inr (List.mem_of_mem_drop h)
theorem setP_asc (v : List UInt8) (k : Int) : ∀ {L : PrL}, AscP L → AscP (setP L k v)
  | [], _ => by simp [setP, fndP, AscP]
  | x :: l, h => by
    by_cases hx : x.1 < k
    · rw [setP_cons_lt v hx]
      refine List.pairwise_cons.2 ⟨fun y hy => ?_, setP_asc v k h.cons.2⟩
      obtain ⟨z, hz, rfl⟩ := List.mem_map.1 hy
      rcases setP_mem v k hz with rfl | hz
      · exact hx
      · exact h.cons.1 z hz
    · rw [setP_cons_ge v hx]
      split
      · rename_i he
        refine List.pairwise_cons.2 ⟨fun y hy => ?_, h.cons.2⟩
        obtain ⟨z, hz, rfl⟩ := List.mem_map.1 hy
        have := h.cons.1 z hz
        dsimp only; omega
      · refine List.pairwise_cons.2 ⟨fun y hy => ?_, h⟩
        obtain ⟨z, hz, rfl⟩ := List.mem_map.1 hy
        dsimp only
        rcases List.mem_cons.1 hz with rfl | hz
        · omega
        · have := h.cons.1 z hz; omega
theorem setP_len (v : List UInt8) (k : Int) (L : PrL) : (setP L k v).length ≤ L.length + 1 := by
  have := fndP_le L k
  unfold setP
  simp only [List.length_append, List.length_cons, List.length_take, List.length_drop]
  split <;> omega
end PA
