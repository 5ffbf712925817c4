/- DiskPrefix in plain. -/
import Derived.Test.YtbniekblkbdidaaD13
import Derived.Test.YtbniekblkbdidaaArb
namespace Go.Proofs.Ytbniekblkbdidaa
open Go.RowKit PA
/-- The bits that are 1 of a number below 256. -/
def pop8 : Nat → Nat → Nat
  | 0, _ => 0
  | f + 1, k => k % 2 + pop8 f (k / 2)
def pop (k : Nat) : Nat := pop8 8 k
theorem pop_half {k : Nat} (h : k < 256) : pop k = k % 2 + pop (k / 2) := by
  have h8 : k / 2 / 2 / 2 / 2 / 2 / 2 / 2 / 2 = 0 := by omega
  simp only [pop, pop8, h8]
theorem pop_zero : pop 0 = 0 := rfl
theorem pop_two {s : Nat} (h : s < 8) : pop (2 ^ s) = 1 := by
  have : ∀ s : Fin 8, pop (2 ^ s.val) = 1 := by decide
  exact this ⟨s, h⟩
def popAt (x y : List UInt8) (j : Nat) : Nat := pop ((x.getD j 0).toNat ^^^ (y.getD j 0).toNat)
def popSum (x y : List UInt8) (n : Nat) : Nat := sumTo (popAt x y) n
theorem sumTo_oneB {g h : Nat → Nat} {k : Nat} : ∀ {n : Nat}, k < n → (∀ j, j < n → j ≠ k → g j = h j) → sumTo g n + h k = sumTo h n + g k
  | 0, hk, _ => by omega
  | n + 1, hk, e => by
    rw [sumTo, sumTo]
    by_cases hkn : k = n
    · subst hkn
      rw [sumTo_congr (g := g) (h := h) (fun j hj => e j (by omega) (by omega))]
      omega
    · have := sumTo_oneB (n := n) (by omega) (fun j hj => e j (by omega))
      have := e n (by omega) (fun h => hkn h.symm)
      omega
theorem popAt_same {x y : List UInt8} {j : Nat} (h : x.getD j 0 = y.getD j 0) : popAt x y j = 0 := by rw [popAt, h, Nat.xor_self]; rfl
theorem sumTo_zero {g : Nat → Nat} : ∀ {n : Nat}, (∀ j, j < n → g j = 0) → sumTo g n = 0
  | 0, _ => rfl
  | n + 1, h => by rw [sumTo, sumTo_zero (n := n) (fun j hj => h j (by omega)), h n (by omega)]
theorem getD_take {l : List UInt8} {n j : Nat} (h : j < n) : (l.take n).getD j 0 = l.getD j 0 := by
  rw [List.getD_eq_getElem?_getD, List.getD_eq_getElem?_getD, List.getElem?_take, if_pos h]
/-- How many bits a crash of one file turns. -/
theorem crash1_turned (all : List UInt8) (firm : Nat) (keep : List Int) (flip : Int) (hd : firm ≤ all.length) :
    popSum (crash1 all firm keep flip) all (firm + keptD (all, firm) keep 0) = (if 0 ≤ flip ∧ 0 < keptD (all, firm) keep 0 then 1 else 0) ∧ (crash1 all firm keep flip).take firm = all.take firm := by
  have hk := keptD_le (all, firm) keep 0
  dsimp only at hk
  obtain ⟨m, hm⟩ : ∃ m, m = keptD (all, firm) keep 0 := ⟨_, rfl⟩
  rw [← hm] at hk ⊢
  by_cases h : 0 ≤ flip ∧ 0 < m
  · rw [crash1, ← hm, if_pos h, if_pos h]
    obtain ⟨at_, hat⟩ : ∃ at_, at_ = flip.toNat % (8 * m) := ⟨_, rfl⟩
    have ha : at_ < 8 * m := by rw [hat]; exact Nat.mod_lt _ (by omega)
    rw [← hat]
    have hj : firm + at_ / 8 < (all.take (firm + m)).length := by rw [List.length_take]; omega
    rw [modify_set _ _ hj]
    constructor
    · have h1 := sumTo_oneB (g := popAt ((all.take (firm + m)).set (firm + at_ / 8) (flipB (all.take (firm + m))[firm + at_ / 8] (at_ % 8))) all) (h := fun _ => 0) (k := firm + at_ / 8) (n := firm + m) (by omega) ?_
      · have h2 : sumTo (fun _ => 0) (firm + m) = 0 := sumTo_zero fun _ _ => rfl
        have h3 : popAt ((all.take (firm + m)).set (firm + at_ / 8) (flipB (all.take (firm + m))[firm + at_ / 8] (at_ % 8))) all (firm + at_ / 8) = 1 := by
          have e1 : ((all.take (firm + m)).set (firm + at_ / 8) (flipB (all.take (firm + m))[firm + at_ / 8] (at_ % 8))).getD (firm + at_ / 8) 0 = flipB (all.take (firm + m))[firm + at_ / 8] (at_ % 8) := by
            rw [List.getD_eq_getElem?_getD, List.getElem?_set_self hj]; rfl
          have e2 : all.getD (firm + at_ / 8) 0 = (all.take (firm + m))[firm + at_ / 8] := by
            rw [← getD_take (n := firm + m) (by omega), List.getD_eq_getElem?_getD, List.getElem?_eq_getElem hj]; rfl
          rw [popAt, e1, e2, flipB_toNat, Nat.xor_comm, ← Nat.xor_assoc, Nat.xor_self, Nat.zero_xor]
          exact pop_two (by omega)
        unfold popSum
        omega
      · intro j hjl hjn
        refine popAt_same ?_
        rw [List.getD_eq_getElem?_getD, List.getElem?_set_ne (Ne.symm hjn), ← List.getD_eq_getElem?_getD, getD_take hjl]
    · rw [List.take_set_of_le (by omega), List.take_take, Nat.min_eq_left (by omega)]
  · rw [crash1, ← hm, if_neg h, if_neg h]
    refine ⟨sumTo_zero fun j hj => popAt_same (getD_take hj), ?_⟩
    rw [List.take_take, Nat.min_eq_left (by omega)]
end Go.Proofs.Ytbniekblkbdidaa
