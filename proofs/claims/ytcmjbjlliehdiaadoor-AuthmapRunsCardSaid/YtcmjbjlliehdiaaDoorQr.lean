/- The reference's map in plain: pairs in increasing order of their keys. -/
import Derived.Test.YtcmjbjlliehdiaaDoorQp
namespace PA
open Go
abbrev PrL := List (Int × List UInt8)
def lkP : PrL → Int → Option (List UInt8)
  | [], _ => none
  | x :: l, k => if k = x.1 then some x.2 else lkP l k
def fndP : PrL → Int → Nat
  | [], _ => 0
  | x :: l, k => if x.1 < k then fndP l k + 1 else 0
def AscP (L : PrL) : Prop := (L.map (·.1)).Pairwise (· < ·)
/-- Is the key there? -/
def hasP (L : PrL) (k : Int) : Bool := if h : fndP L k < L.length then decide (L[fndP L k].1 = k) else false
def setP (L : PrL) (k : Int) (v : List UInt8) : PrL := L.take (fndP L k) ++ (k, v) :: L.drop (if hasP L k = true then fndP L k + 1 else fndP L k)
theorem fndP_le : ∀ (L : PrL) (k : Int), fndP L k ≤ L.length
  | [], _ => Nat.le_refl _
  | x :: l, k => by
    unfold fndP
    split
    · have := fndP_le l k; simp; omega
    · simp
theorem fndP_lt : ∀ (L : PrL) (k : Int) (i : Nat) (hi : i < L.length), i < fndP L k → L[i].1 < k
  | [], _, _, hi, _ => by simp at hi
  | x :: l, k, i, hi, h => by
    unfold fndP at h
    split at h
    · rename_i hx
      cases i with
      | zero => exact hx
      | succ i => exact fndP_lt l k i (by simpa using hi) (by omega)
    · omega
theorem fndP_ge : ∀ (L : PrL) (k : Int) (h : fndP L k < L.length), ¬ L[fndP L k].1 < k
  | [], _, h => by simp at h
  | x :: l, k, h => by
    by_cases hx : x.1 < k
    · have e : fndP (x :: l) k = fndP l k + 1 := by rw [fndP, if_pos hx]
      simp only [e, List.getElem_cons_succ]
      exact fndP_ge l k (by rw [e] at h; simpa using h)
    · have e : fndP (x :: l) k = 0 := by rw [fndP, if_neg hx]
      simp only [e, List.getElem_cons_zero]
      exact hx
theorem AscP.cons {x : Int × List UInt8} {l : PrL} (h : AscP (x :: l)) : (∀ y ∈ l, x.1 < y.1) ∧ AscP l := by
  have := List.pairwise_cons.1 h
  exact ⟨fun y hy => this.1 _ (List.mem_map.2 ⟨y, hy, rfl⟩), this.2⟩
theorem lkP_none : ∀ {L : PrL} {k : Int}, (∀ x ∈ L, x.1 ≠ k) → lkP L k = none
  | [], _, _ => rfl
  | x :: l, k, h => by
    rw [lkP, if_neg (fun e => h x (by simp) e.symm)]
    exact lkP_none fun y hy => h y (by simp [hy])
theorem hasP_cons_lt {x : Int × List UInt8} {l : PrL} {k : Int} (h : x.1 < k) : hasP (x :: l) k = hasP l k := by
  have e : fndP (x :: l) k = fndP l k + 1 := by rw [fndP, if_pos h]
  unfold hasP
  simp only [e, List.length_cons, Nat.add_lt_add_iff_right, List.getElem_cons_succ]
theorem hasP_cons_ge {x : Int × List UInt8} {l : PrL} {k : Int} (h : ¬ x.1 < k) : hasP (x :: l) k = decide (x.1 = k) := by
  have e : fndP (x :: l) k = 0 := by rw [fndP, if_neg h]
  unfold hasP
  simp only [e, List.length_cons, Nat.zero_lt_succ, dite_true, List.getElem_cons_zero]
theorem setP_cons_lt {x : Int × List UInt8} {l : PrL} {k : Int} (v : List UInt8) (h : x.1 < k) : setP (x :: l) k v = x :: setP l k v := by
  have e : fndP (x :: l) k = fndP l k + 1 := by rw [fndP, if_pos h]
  unfold setP
  rw [hasP_cons_lt h, e]
  split <;> simp
theorem setP_cons_ge {x : Int × List UInt8} {l : PrL} {k : Int} (v : List UInt8) (h : ¬ x.1 < k) : setP (x :: l) k v = if x.1 = k then (k, v) :: l else (k, v) :: x :: l := by
  have e : fndP (x :: l) k = 0 := by rw [fndP, if_neg h]
  unfold setP
  rw [hasP_cons_ge h, e]
  by_cases hx : x.1 = k
  · simp [hx]
  · simp [hx]
theorem hasP_lk : ∀ {L : PrL}, AscP L → ∀ k, hasP L k = (lkP L k).isSome
  | [], _, k => by simp [hasP, lkP]
  | x :: l, h, k => by
    by_cases hx : x.1 < k
    · rw [hasP_cons_lt hx, hasP_lk h.cons.2 k, lkP, if_neg (by omega)]
    · rw [hasP_cons_ge hx, lkP]
      by_cases hk : x.1 = k
      · rw [if_pos hk.symm]; simp [hk]
      · rw [if_neg (fun e => hk e.symm), lkP_none fun y hy => by have := h.cons.1 y hy; omega]; simp [hk]
theorem setP_lk (v : List UInt8) (k : Int) : ∀ {L : PrL}, AscP L → lkP (setP L k v) = fset (lkP L) k (some v)
  | [], _ => by funext j; simp [setP, fndP, lkP, fset]
  | x :: l, h => by
    by_cases hx : x.1 < k
    · rw [setP_cons_lt v hx]
      funext j
      have ih := congrFun (setP_lk v k h.cons.2) j
      simp only [lkP, ih, fset]
      by_cases hj : j = x.1
      · rw [if_pos hj, if_neg (by omega), if_pos hj]
      · rw [if_neg hj, if_neg hj]
    · rw [setP_cons_ge v hx]
      funext j
      split
      · rename_i he
        simp only [lkP, fset]
        by_cases hj : j = k
        · rw [if_pos hj, if_pos hj]
        · rw [if_neg hj, if_neg hj, if_neg (by omega)]
      · simp only [lkP, fset]
theorem setP_mem (v : List UInt8) (k : Int) {L : PrL} {y : Int × List UInt8} (h : y ∈ setP L k v) : y = (k, v) ∨ y ∈ L := by
  unfold setP at h
  rcases List.mem_append.1 h with h | h
  · exact .inr (List.mem_of_mem_take h)
  · rcases List.mem_cons.1 h with h | h
    · exact .inl h
    · exact .inr (List.mem_of_mem_drop h)
theorem setP_asc (v : List UInt8) (k : Int) : ∀ {L : PrL}, AscP L → AscP (setP L k v)
  | [], _ => by simp [setP, fndP, AscP]
  | x :: l, h => by
    by_cases hx : x.1 < k
    · rw [setP_cons_lt v hx]
      refine List.pairwise_cons.2 ⟨fun y hy => ?_, setP_asc v k h.cons.2⟩
      obtain ⟨z, hz, rfl⟩ := List.mem_map.1 hy
      rcases setP_mem v k hz with rfl | hz
      · exact hx
      · exact h.cons.1 z hz
    · rw [setP_cons_ge v hx]
      split
      · rename_i he
        refine List.pairwise_cons.2 ⟨fun y hy => ?_, h.cons.2⟩
        obtain ⟨z, hz, rfl⟩ := List.mem_map.1 hy
        have := h.cons.1 z hz
        dsimp only; omega
      · refine List.pairwise_cons.2 ⟨fun y hy => ?_, h⟩
        obtain ⟨z, hz, rfl⟩ := List.mem_map.1 hy
        dsimp only
        rcases List.mem_cons.1 hz with rfl | hz
        · omega
        · have := h.cons.1 z hz; omega
theorem setP_len (v : List UInt8) (k : Int) (L : PrL) : (setP L k v).length ≤ L.length + 1 := by
  have := fndP_le L k
  unfold setP
  simp only [List.length_append, List.length_cons, List.length_take, List.length_drop]
  split <;> omega
end PA
