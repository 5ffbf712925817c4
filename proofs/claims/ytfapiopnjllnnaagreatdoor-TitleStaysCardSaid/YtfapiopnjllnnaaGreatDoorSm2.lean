/- Stable sorting in plain, further: one element moved up or down; binary searches. No program in sight. -/
import Derived.Test.YtfapiopnjllnnaaGreatDoorSm
namespace PA
section
variable {α : Type} {c : α → α → Int}
theorem Rot.up0 (f : Nat → α) (a : Nat) : Rot f a (a + 1) (a + 1) f := ⟨fun t ht => by omega, fun t ht => by congr 1; omega, fun k _ => rfl⟩
theorem Rot.up {f g : Nat → α} {a k : Nat} (h : Rot f a (a + 1) (k + 1) g) (hk : a ≤ k) : Rot f a (a + 1) (k + 2) (swF g k (k + 1)) := by
  obtain ⟨g1, g2, g3⟩ := h
  have e2 : g k = f a := by have := g2 0 (by omega); rw [show a + (k + 1 - (a + 1)) + 0 = k by omega] at this; exact this
  refine ⟨fun t ht => ?_, fun t ht => ?_, fun x hx => ?_⟩
  · unfold swF
    by_cases e : a + t = k
    · rw [if_pos e, g3 (k + 1) (.inr (Nat.le_refl _))]; congr 1; omega
    · rw [if_neg e, if_neg (by omega)]; exact g1 t (by omega)
  · unfold swF
    rw [if_neg (by omega), if_pos (by omega), e2]; congr 1; omega
  · unfold swF
    rw [if_neg (by omega), if_neg (by omega)]; exact g3 x (by omega)
theorem Rot.down0 (f : Nat → α) (m : Nat) : Rot f m m (m + 1) f := ⟨fun t ht => rfl, fun t ht => by omega, fun k _ => rfl⟩
theorem Rot.down {f g : Nat → α} {m k : Nat} (h : Rot f k m (m + 1) g) (h0 : 0 < k) (hk : k ≤ m) : Rot f (k - 1) m (m + 1) (swF g k (k - 1)) := by
  obtain ⟨g1, g2, g3⟩ := h
  have e2 : g k = f m := g1 0 (by omega)
  refine ⟨fun t ht => ?_, fun t ht => ?_, fun x hx => ?_⟩
  · unfold swF
    rw [if_neg (by omega), if_pos (by omega), e2]; congr 1; omega
  · unfold swF
    by_cases e : k - 1 + (m + 1 - m) + t = k
    · rw [if_pos e, g3 (k - 1) (.inl (by omega))]; congr 1; omega
    · rw [if_neg e, if_neg (by omega)]
      have := g2 (t - 1) (by omega)
      rw [show k + (m + 1 - m) + (t - 1) = k - 1 + (m + 1 - m) + t by omega] at this
      rw [this]; congr 1; omega
  · unfold swF
    rw [if_neg (by omega), if_neg (by omega)]; exact g3 x (by omega)
theorem Rot.none1 (f : Nat → α) (m b : Nat) : Rot f m m b f := ⟨fun t _ => rfl, fun t ht => by omega, fun k _ => rfl⟩
theorem Rot.none2 (f : Nat → α) (a m : Nat) : Rot f a m m f := ⟨fun t ht => by omega, fun t _ => by congr 1; omega, fun k _ => rfl⟩
/-- A binary search for the place of x: below i nothing is above x, from j on nothing is below it. -/
structure Bs (c : α → α → Int) (lo hi i j : Nat) (f : Nat → α) (x : α) : Prop where
  h1 : lo ≤ i
  h2 : i ≤ j
  h3 : j ≤ hi
  lo : ∀ k, lo ≤ k → k < i → c (f k) x ≤ 0
  up : ∀ k, j ≤ k → k < hi → 0 ≤ c (f k) x
theorem Bs.start {lo hi : Nat} (h : lo ≤ hi) (f : Nat → α) (x : α) : Bs c lo hi lo hi f x := ⟨Nat.le_refl _, h, Nat.le_refl _, fun k p1 p2 => by omega, fun k p1 p2 => by omega⟩
theorem Bs.right {lo hi i j : Nat} {f : Nat → α} {x : α} (hT : Total c) (hs : SrtF c lo hi f) (h : Bs c lo hi i j f x) {m : Nat} (h1 : i ≤ m) (h2 : m < j) (hm : c (f m) x ≤ 0) : Bs c lo hi (m + 1) j f x := by
  refine ⟨by have := h.h1; omega, by omega, h.h3, fun k p1 p2 => ?_, h.up⟩
  rcases Nat.lt_or_ge k m with e | e
  · exact hT.trans _ _ _ (hs k m p1 e (by have := h.h3; omega)) hm
  · obtain rfl : k = m := by omega
    exact hm
theorem Bs.left {lo hi i j : Nat} {f : Nat → α} {x : α} (hT : Total c) (hs : SrtF c lo hi f) (h : Bs c lo hi i j f x) {m : Nat} (h1 : i ≤ m) (h2 : m < j) (hm : 0 ≤ c (f m) x) : Bs c lo hi i m f x := by
  refine ⟨h.h1, h1, by have := h.h3; omega, h.lo, fun k p1 p2 => ?_⟩
  rcases Nat.lt_or_ge m k with e | e
  · have h3 := hs m k (by have := h.h1; omega) e p2
    have h4 := hT.flip (f m) x
    have h5 := hT.trans _ _ _ (show c x (f m) ≤ 0 by omega) h3
    have h6 := hT.flip (f k) x
    omega
  · obtain rfl : k = m := by omega
    exact hm
end
end PA
