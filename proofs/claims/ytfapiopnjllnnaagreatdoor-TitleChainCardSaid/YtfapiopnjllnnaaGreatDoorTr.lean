/- Rationals of limited size in plain: what package ratio computes. No program in sight. -/
import Derived.Test.YtfapiopnjllnnaaGreatDoorHp
namespace PA
open Go
/-- A ratio. -/
structure Rt where
  n : Int
  d : Int
  deriving DecidableEq
def ratioMaxN : Nat := 1099511627776
def ratioMaxD : Nat := 1048576
/-- What 'build' returns: the ratio and the error. -/
def buildR (neg : Bool) (n d : Nat) : Rt × Int :=
  if ratioMaxN < n / Nat.gcd n d ∨ ratioMaxD < d / Nat.gcd n d then (⟨0, 0⟩, 5)
  else (⟨if neg = true then -((n / Nat.gcd n d : Nat) : Int) else ((n / Nat.gcd n d : Nat) : Int), ((d / Nat.gcd n d : Nat) : Int)⟩, 0)
def newR (num den : Int) : Rt × Int :=
  if den = 0 then (⟨0, 0⟩, 1) else buildR (decide (num < 0) != decide (den < 0)) num.natAbs den.natAbs
def okR (r : Rt) : Bool := decide (1 ≤ r.d) && decide (newR r.n r.d = (r, 0))
def addR (a b : Rt) : Rt × Int := if okR a = true ∧ okR b = true then newR (a.n * b.d + b.n * a.d) (a.d * b.d) else (⟨0, 0⟩, 1)
def negR (a : Rt) : Rt := ⟨-a.n, a.d⟩
def subR (a b : Rt) : Rt × Int := addR a (negR b)
theorem buildR_ok {neg : Bool} {n d : Nat} {r : Rt} (h : buildR neg n d = (r, 0)) : r.n.natAbs = n / Nat.gcd n d ∧ r.d = ((d / Nat.gcd n d : Nat) : Int) ∧ n / Nat.gcd n d ≤ ratioMaxN ∧ d / Nat.gcd n d ≤ ratioMaxD := by
  unfold buildR at h
  split at h
  · cases h
  · rename_i h'
    have h1 : n / Nat.gcd n d ≤ ratioMaxN := by
      rcases Nat.lt_or_ge ratioMaxN (n / Nat.gcd n d) with h2 | h2
      · exact absurd (.inl h2) h'
      · exact h2
    have h2 : d / Nat.gcd n d ≤ ratioMaxD := by
      rcases Nat.lt_or_ge ratioMaxD (d / Nat.gcd n d) with h2 | h2
      · exact absurd (.inr h2) h'
      · exact h2
    obtain ⟨rfl⟩ := (Prod.mk.inj h).1
    refine ⟨?_, rfl, h1, h2⟩
    show Int.natAbs (if neg = true then -((n / Nat.gcd n d : Nat) : Int) else ((n / Nat.gcd n d : Nat) : Int)) = _
    by_cases e : neg = true
    · rw [if_pos e, Int.natAbs_neg, Int.natAbs_natCast]
    · rw [if_neg e, Int.natAbs_natCast]
structure Rok (r : Rt) : Prop where
  d1 : 1 ≤ r.d
  d2 : r.d ≤ 1048576
  n1 : -1099511627776 ≤ r.n
  n2 : r.n ≤ 1099511627776
theorem newR_ok {n d : Int} {r : Rt} (h : newR n d = (r, 0)) (hd : 0 < d) : Rok r ∧ (r.n = 0 ↔ n = 0) ∧ (0 < r.n ↔ 0 < n) := by
  unfold newR at h
  rw [if_neg (by omega)] at h
  have h0 := h
  obtain ⟨h1, h2, h3, h4⟩ := buildR_ok h
  unfold ratioMaxN at h3
  unfold ratioMaxD at h4
  have hg : 0 < Nat.gcd n.natAbs d.natAbs := Nat.gcd_pos_of_pos_right _ (by omega)
  have hdv : 0 < d.natAbs / Nat.gcd n.natAbs d.natAbs := Nat.div_pos (Nat.le_of_dvd (by omega) (Nat.gcd_dvd_right _ _)) hg
  have hz : n.natAbs / Nat.gcd n.natAbs d.natAbs = 0 ↔ n.natAbs = 0 := by
    constructor
    · intro e
      rcases (Nat.div_eq_zero_iff).1 e with e | e
      · omega
      · rcases Nat.eq_zero_or_pos n.natAbs with h | h
        · exact h
        · have := Nat.le_of_dvd h (Nat.gcd_dvd_left n.natAbs d.natAbs); omega
    · intro e; rw [e]; simp
  refine ⟨⟨by omega, by omega, by omega, by omega⟩, by omega, ?_⟩
  unfold buildR at h0
  split at h0
  · cases h0
  · have e := (Prod.mk.inj h0).1
    have hd' : decide (d < 0) = false := decide_eq_false (by omega)
    rw [hd'] at e
    subst e
    by_cases hn : n < 0
    · simp only [hn, decide_true]
      simp
      omega
    · simp only [hn, decide_false]
      simp
      constructor
      · intro h
        have : n.natAbs ≠ 0 := fun e => by rw [e] at h; simp at h
        omega
      · intro h
        have := hz
        omega
theorem okR_spec {r : Rt} (h : okR r = true) : Rok r ∧ newR r.n r.d = (r, 0) := by
  simp only [okR, Bool.and_eq_true, decide_eq_true_eq] at h
  exact ⟨(newR_ok h.2 (by omega)).1, h.2⟩
theorem newR_den (n d : Int) (hd : 0 < d) (hdn : okR ⟨n, d⟩ = true) : Nat.gcd n.natAbs d.natAbs = 1 := by
  have h := (okR_spec hdn).2
  unfold newR at h
  rw [if_neg (by show ¬ d = 0; omega)] at h
  obtain ⟨-, h2, -, -⟩ := buildR_ok h
  have h2' : d = ((d.natAbs / Nat.gcd n.natAbs d.natAbs : Nat) : Int) := h2
  rcases Nat.lt_or_ge 1 (Nat.gcd n.natAbs d.natAbs) with h3 | h3
  · have := Nat.div_lt_self (n := d.natAbs) (by omega) h3
    omega
  · have : 0 < Nat.gcd n.natAbs d.natAbs := Nat.gcd_pos_of_pos_right _ (by omega)
    omega
/-- A result without error is in lowest terms. -/
theorem newR_valid {n d : Int} {r : Rt} (h : newR n d = (r, 0)) (hd : 0 < d) : okR r = true := by
  obtain ⟨hr, hz, hp⟩ := newR_ok h hd
  have h' := h
  unfold newR at h
  rw [if_neg (by omega)] at h
  obtain ⟨h1, h2, h3, h4⟩ := buildR_ok h
  have hg : 0 < Nat.gcd n.natAbs d.natAbs := Nat.gcd_pos_of_pos_right _ (by omega)
  have hco : Nat.gcd r.n.natAbs r.d.natAbs = 1 := by
    rw [h1, h2, Int.natAbs_natCast]
    rw [Nat.gcd_div (Nat.gcd_dvd_left _ _) (Nat.gcd_dvd_right _ _), Nat.div_self hg]
  simp only [okR, Bool.and_eq_true, decide_eq_true_eq]
  refine ⟨hr.d1, ?_⟩
  unfold newR buildR
  rw [if_neg (by have := hr.d1; omega), hco, Nat.div_one, Nat.div_one, if_neg]
  · have hdd : decide (r.d < 0) = false := decide_eq_false (by have := hr.d1; omega)
    rw [hdd]
    refine congrArg (·, (0 : Int)) ?_
    cases r with
    | mk rn rd =>
      simp only at *
      by_cases hn : rn < 0
      · simp only [hn, decide_true]
        simp
        exact ⟨by omega, by have := hr.d1; simp at this; omega⟩
      · simp only [hn, decide_false]
        simp
        exact ⟨by omega, by have := hr.d1; simp at this; omega⟩
  · rw [h1, h2, Int.natAbs_natCast]
    omega
theorem okR_mk (n d : Int) (h1 : 1 ≤ d) (h2 : d ≤ 1048576) (h3 : n.natAbs ≤ 1099511627776) (h4 : Nat.gcd n.natAbs d.natAbs = 1) : okR ⟨n, d⟩ = true := by
  simp only [okR, Bool.and_eq_true, decide_eq_true_eq]
  refine ⟨h1, ?_⟩
  unfold newR buildR
  rw [if_neg (by omega), h4, Nat.div_one, Nat.div_one, if_neg]
  · have hdd : decide (d < 0) = false := decide_eq_false (by omega)
    rw [hdd]
    refine congrArg (·, (0 : Int)) ?_
    by_cases hn : n < 0
    · simp only [hn, decide_true]
      simp
      exact ⟨by omega, by omega⟩
    · simp only [hn, decide_false]
      simp
      exact ⟨by omega, by omega⟩
  · unfold ratioMaxN ratioMaxD
    omega
theorem okR_neg {r : Rt} (h : okR r = true) : okR (negR r) = true := by
  have h1 := (okR_spec h).1
  have hc := newR_den r.n r.d (by have := h1.d1; omega) h
  exact okR_mk _ _ h1.d1 h1.d2 (by have := h1.n1; have := h1.n2; omega) (by rw [Int.natAbs_neg]; exact hc)
theorem addR_valid {a b r : Rt} (h : addR a b = (r, 0)) : okR r = true ∧ okR a = true ∧ okR b = true := by
  unfold addR at h
  split at h
  · rename_i hh
    have ha := (okR_spec hh.1).1
    have hb := (okR_spec hh.2).1
    exact ⟨newR_valid h (Int.mul_pos (by have := ha.d1; omega) (by have := hb.d1; omega)), hh.1, hh.2⟩
  · cases h
end PA
