/- SealOrder, in plain. -/
import Derived.Test.YtcnonbhhlbplpaaS8
import Derived.Test.YtcnonbhhlbplpaaS10
namespace PA
open Go Go.RowKit
def ordM (E : Nat → Ent) (n : Nat) (P O : Nat → Bool) : Int → Option Ent := fun k =>
  if 0 ≤ k ∧ k % 3 = 0 ∧ k < 3 * (n : Int) ∧ P (k / 3).toNat = true then some { E (k / 3).toNat with o := O (k / 3).toNat } else none
theorem ordM_at (E : Nat → Ent) (n : Nat) (P O : Nat → Bool) (j : Nat) (hj : j < n) (hP : P j = true) : ordM E n P O (3 * (j : Int)) = some { E j with o := O j } := by
  have e : (3 * (j : Int) / 3).toNat = j := by omega
  unfold ordM
  rw [e, if_pos ⟨by omega, by omega, by omega, hP⟩]
theorem ordM_no (E : Nat → Ent) (n : Nat) (P O : Nat → Bool) (j : Nat) (hP : P j = false) : ordM E n P O (3 * (j : Int)) = none := by
  have e : (3 * (j : Int) / 3).toNat = j := by omega
  unfold ordM
  rw [e, if_neg (by rw [hP]; simp)]
theorem ordM_put (E : Nat → Ent) (n : Nat) (P O : Nat → Bool) (j : Nat) (hj : j < n) (o : Bool) :
    eset (ordM E n P O) (3 * (j : Int)) { E j with o := o } = ordM E n (fun i => P i || i == j) (fun i => if i = j then o else O i) := by
  funext k
  have e : (3 * (j : Int) / 3).toNat = j := by omega
  unfold eset
  by_cases hk : k = 3 * (j : Int)
  · rw [if_pos hk, hk]
    unfold ordM
    rw [e, if_pos ⟨by omega, by omega, by omega, by simp⟩]
    dsimp only
    rw [if_pos rfl]
  · rw [if_neg hk]
    unfold ordM
    by_cases h1 : 0 ≤ k ∧ k % 3 = 0 ∧ k < 3 * (n : Int)
    · have hne : (k / 3).toNat ≠ j := by omega
      have hb : ((k / 3).toNat == j) = false := by simpa using hne
      simp only [hne, hb, Bool.or_false, if_false]
    · rw [if_neg (fun h => h1 ⟨h.1, h.2.1, h.2.2.1⟩), if_neg (fun h => h1 ⟨h.1, h.2.1, h.2.2.1⟩)]
theorem ordM_congr (E : Nat → Ent) (n : Nat) {P P' O O' : Nat → Bool} (h : ∀ j, j < n → P j = P' j ∧ O j = O' j) : ordM E n P O = ordM E n P' O' := by
  funext k
  unfold ordM
  by_cases h1 : 0 ≤ k ∧ k % 3 = 0 ∧ k < 3 * (n : Int)
  · have := h (k / 3).toNat (by omega)
    rw [this.1, this.2]
  · rw [if_neg (fun h => h1 ⟨h.1, h.2.1, h.2.2.1⟩), if_neg (fun h => h1 ⟨h.1, h.2.1, h.2.2.1⟩)]
theorem ordM_none (E : Nat → Ent) (n : Nat) {P O : Nat → Bool} (h : ∀ j, j < n → P j = false) : ordM E n P O = fun _ => none := by
  funext k
  unfold ordM
  by_cases h1 : 0 ≤ k ∧ k % 3 = 0 ∧ k < 3 * (n : Int)
  · rw [if_neg (by rw [h (k / 3).toNat (by omega)]; simp)]
  · rw [if_neg (fun h => h1 ⟨h.1, h.2.1, h.2.2.1⟩)]
theorem ordM_keys (E : Nat → Ent) (n : Nat) (O : Nat → Bool) : MKeys (ordM E n (fun _ => true) O) ((List.range n).map fun j : Nat => 3 * (j : Int)) := by
  refine ⟨?_, fun k => ?_⟩
  · rw [List.pairwise_map]
    exact List.pairwise_lt_range.imp fun h => by omega
  · unfold ordM
    constructor
    · intro hk
      obtain ⟨j, hj, rfl⟩ := List.mem_map.1 hk
      have := List.mem_range.1 hj
      rw [if_pos ⟨by omega, by omega, by omega, rfl⟩]; rfl
    · intro hk
      by_cases h1 : 0 ≤ k ∧ k % 3 = 0 ∧ k < 3 * (n : Int) ∧ true = true
      · exact List.mem_map.2 ⟨(k / 3).toNat, List.mem_range.2 (by omega), by omega⟩
      · rw [if_neg h1] at hk; cases hk
def salN (s j : Nat) : Nat := (s + j) % 18446744073709551616
def ordE (L : List Int) (s : Nat) (j : Nat) : Ent := ⟨genB (L.getD j 0), salN s j, false⟩
def xP (i : Nat) : Nat → Bool := fun j => decide (j < i)
def yP (n i : Nat) : Nat → Bool := fun j => decide (n ≤ j + i)
def xO (i : Nat) : Nat → Bool := fun j => decide (j % 2 = 0 ∧ j < i)
def yO (i : Nat) : Nat → Bool := fun j => decide (j % 2 = 0 ∧ i ≤ j)
def nO : Nat → Bool := fun _ => false
theorem putE_ord (E : Nat → Ent) (n c : Nat) (P O : Nat → Bool) (j : Nat) (x : List UInt8) (hj : j < 20) (hx : x.length ≤ 8) (hc : c < 4096) (hP : P j = false) : putE (ordM E n P O) c (3 * (j : Int)) x = 0 := by
  unfold putE
  rw [if_neg (by omega), if_neg (by omega), ordM_no E n P O j hP, if_neg (by simp), if_neg (by omega)]
theorem x_put (E : Nat → Ent) (n i : Nat) (hi : i < n) : eset (ordM E n (xP i) nO) (3 * (i : Int)) ⟨(E i).b, (E i).s, false⟩ = ordM E n (xP (i + 1)) nO := by
  rw [show (⟨(E i).b, (E i).s, false⟩ : Ent) = { E i with o := false } from rfl, ordM_put E n _ _ i hi]
  refine ordM_congr E n fun j _ => ⟨?_, by unfold nO; split <;> rfl⟩
  unfold xP
  by_cases h : j = i
  · subst h; simp
  · have : (j == i) = false := by simpa using h
    rw [this, Bool.or_false]; exact decide_eq_decide.2 (by omega)
theorem y_put (E : Nat → Ent) (n i j : Nat) (hj : j + 1 + i = n) : eset (ordM E n (yP n i) nO) (3 * (j : Int)) ⟨(E j).b, (E j).s, false⟩ = ordM E n (yP n (i + 1)) nO := by
  rw [show (⟨(E j).b, (E j).s, false⟩ : Ent) = { E j with o := false } from rfl, ordM_put E n _ _ j (by omega)]
  refine ordM_congr E n fun t _ => ⟨?_, by unfold nO; split <;> rfl⟩
  unfold yP
  by_cases h : t = j
  · subst h; simp; omega
  · have : (t == j) = false := by simpa using h
    rw [this, Bool.or_false]; exact decide_eq_decide.2 (by omega)
theorem x_open (E : Nat → Ent) (n i : Nat) (hi : i < n) (h2 : i % 2 = 0) : eset (ordM E n (fun _ => true) (xO i)) (3 * (i : Int)) { E i with o := true } = ordM E n (fun _ => true) (xO (i + 2)) := by
  rw [ordM_put E n _ _ i hi]
  refine ordM_congr E n fun j _ => ⟨by simp, ?_⟩
  unfold xO
  by_cases h : j = i
  · subst h; simp [h2]
  · rw [if_neg h]; exact decide_eq_decide.2 (by omega)
theorem x_again (E : Nat → Ent) (n i : Nat) (hi : i < n) (h2 : i % 2 = 0) : eset (ordM E n (fun _ => true) (xO (i + 2))) (3 * (i : Int)) { E i with o := true } = ordM E n (fun _ => true) (xO (i + 2)) := by
  rw [ordM_put E n _ _ i hi]
  refine ordM_congr E n fun j _ => ⟨by simp, ?_⟩
  unfold xO
  by_cases h : j = i
  · subst h; simp [h2]
  · rw [if_neg h]
theorem y_open (E : Nat → Ent) (n t : Nat) (ht : t < n) (h2 : t % 2 = 0) : eset (ordM E n (fun _ => true) (yO (t + 1))) (3 * (t : Int)) { E t with o := true } = ordM E n (fun _ => true) (yO t) := by
  rw [ordM_put E n _ _ t ht]
  refine ordM_congr E n fun j _ => ⟨by simp, ?_⟩
  unfold yO
  by_cases h : j = t
  · subst h; simp [h2]
  · rw [if_neg h]; exact decide_eq_decide.2 (by omega)
theorem y_skip (E : Nat → Ent) (n t : Nat) (h2 : t % 2 = 1) : ordM E n (fun _ => true) (yO (t + 1)) = ordM E n (fun _ => true) (yO t) := by
  refine ordM_congr E n fun j _ => ⟨rfl, ?_⟩
  unfold yO
  exact decide_eq_decide.2 (by omega)
theorem x_full (E : Nat → Ent) (n : Nat) : ordM E n (xP n) nO = ordM E n (fun _ => true) (xO 0) := ordM_congr E n fun j hj => ⟨by unfold xP; exact decide_eq_true hj, by unfold nO xO; simp⟩
theorem y_full (E : Nat → Ent) (n : Nat) : ordM E n (yP n n) nO = ordM E n (fun _ => true) (yO n) := ordM_congr E n fun j hj => ⟨by unfold yP; exact decide_eq_true (by omega), by unfold nO yO; simp; omega⟩
theorem xy_end (E : Nat → Ent) (n i : Nat) (hi : n ≤ i) : ordM E n (fun _ => true) (xO i) = ordM E n (fun _ => true) (yO 0) := ordM_congr E n fun j hj => ⟨rfl, by unfold xO yO; exact decide_eq_decide.2 (by omega)⟩
theorem xy_none (E : Nat → Ent) (n : Nat) : (fun _ => none) = ordM E n (xP 0) nO ∧ (fun _ => none) = ordM E n (yP n 0) nO :=
  ⟨(ordM_none E n fun j _ => by unfold xP; simp).symm, (ordM_none E n fun j hj => by unfold yP; simp; omega).symm⟩
end PA
