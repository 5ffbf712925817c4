/- Stable sorting in place, in plain: exchanges, rotations, the merge of two sorted parts. No program in sight. -/
import Derived.Test.YtodipneapffjdaaGreatDoorGActsSort3
import Derived.Test.YtodipneapffjdaaGreatDoorGActsSort24
namespace PA
section
variable {α : Type}
/-- Two places exchanged. -/
def swF (f : Nat → α) (i j : Nat) : Nat → α := fun k => if k = i then f j else if k = j then f i else f k
theorem swF_comm (f : Nat → α) (i j : Nat) : swF f i j = swF f j i := by
  funext k
  unfold swF
  by_cases h1 : k = i
  · by_cases h2 : k = j
    · rw [if_pos h1, if_pos h2, ← h1, ← h2]
    · rw [if_pos h1, if_neg h2, if_pos h1]
  · rw [if_neg h1]
    by_cases h2 : k = j
    · rw [if_pos h2, if_pos h2]
    · rw [if_neg h2, if_neg h2, if_neg h1]
/-- Made by exchanges between a and b. -/
inductive Sw (a b : Nat) (f : Nat → α) : (Nat → α) → Prop where
  | refl : Sw a b f f
  | step (g : Nat → α) (i j : Nat) : Sw a b f g → a ≤ i → i < b → a ≤ j → j < b → Sw a b f (swF g i j)
theorem Sw.trans {a b : Nat} {f g h : Nat → α} (h1 : Sw a b f g) (h2 : Sw a b g h) : Sw a b f h := by
  induction h2 with
  | refl => exact h1
  | step g' i j _ p1 p2 p3 p4 ih => exact .step g' i j ih p1 p2 p3 p4
theorem Sw.mono {a b a' b' : Nat} {f g : Nat → α} (h1 : a' ≤ a) (h2 : b ≤ b') (h : Sw a b f g) : Sw a' b' f g := by
  induction h with
  | refl => exact .refl
  | step g' i j _ p1 p2 p3 p4 ih => exact .step g' i j ih (by omega) (by omega) (by omega) (by omega)
theorem Sw.out {a b : Nat} {f g : Nat → α} (h : Sw a b f g) {k : Nat} (hk : k < a ∨ b ≤ k) : g k = f k := by
  induction h with
  | refl => rfl
  | step g' i j _ p1 p2 p3 p4 ih =>
    unfold swF
    rw [if_neg (by omega), if_neg (by omega)]
    exact ih
theorem Sw.at {a b : Nat} {f g : Nat → α} (h : Sw a b f g) : ∀ k, a ≤ k → k < b → ∃ j, a ≤ j ∧ j < b ∧ g k = f j := by
  induction h with
  | refl => exact fun k h1 h2 => ⟨k, h1, h2, rfl⟩
  | step g' i j _ p1 p2 p3 p4 ih =>
    intro k h1 h2
    unfold swF
    split
    · exact ih j p3 p4
    · split
      · exact ih i p1 p2
      · exact ih k h1 h2
theorem sw_perm1 (n : Nat) (f : Nat → α) (i j : Nat) (hi : i < n) (hj : j < n) : ((List.range n).map (swF f i j)).Perm ((List.range n).map f) := by
  have e : (List.range n).map (swF f i j) = (((List.range n).map f).set i (((List.range n).map f)[j]'(by simpa using hj))).set j (((List.range n).map f)[i]'(by simpa using hi)) := by
    apply List.ext_getElem
    · simp
    · intro k h1 h2
      simp only [List.getElem_map, List.getElem_range, List.getElem_set, swF]
      by_cases e1 : k = j
      · subst e1
        by_cases e2 : k = i
        · subst e2; simp
        · simp [e2]
      · by_cases e2 : k = i
        · subst e2; simp [Ne.symm e1]
        · simp [e1, e2, Ne.symm e1, Ne.symm e2]
  rw [e]
  exact List.set_set_perm _ _
theorem Sw.perm {n : Nat} {f g : Nat → α} (h : Sw 0 n f g) : ((List.range n).map g).Perm ((List.range n).map f) := by
  induction h with
  | refl => exact .refl _
  | step g' i j _ p1 p2 p3 p4 ih => exact (sw_perm1 n g' i j p2 p4).trans ih
/-- Two ranges exchanged. -/
def srF (f : Nat → α) (a b : Nat) : Nat → Nat → α
  | 0 => f
  | n + 1 => swF (srF f a b n) (a + n) (b + n)
theorem srF_spec (f : Nat → α) (a b : Nat) : ∀ n, a + n ≤ b → ∀ k, srF f a b n k = if a ≤ k ∧ k < a + n then f (b + (k - a)) else if b ≤ k ∧ k < b + n then f (a + (k - b)) else f k
  | 0, h, k => by rw [srF, if_neg (by omega), if_neg (by omega)]
  | n + 1, h, k => by
    have ih := srF_spec f a b n (by omega)
    have e0 : srF f a b (n + 1) k = if k = a + n then srF f a b n (b + n) else if k = b + n then srF f a b n (a + n) else srF f a b n k := rfl
    rw [e0, ih k, ih (a + n), ih (b + n)]
    (repeat' split) <;> first | rfl | (exfalso; omega) | (congr 1; omega)
theorem srF_sw (f : Nat → α) (a b lo hi : Nat) (h1 : lo ≤ a) (h2 : lo ≤ b) : ∀ n, a + n ≤ hi → b + n ≤ hi → Sw lo hi f (srF f a b n)
  | 0, _, _ => .refl
  | n + 1, h3, h4 => .step _ _ _ (srF_sw f a b lo hi h1 h2 n (by omega) (by omega)) (by omega) (by omega) (by omega) (by omega)
/-- g is f with the parts [a, m) and [m, b) in the other order. -/
def Rot (f : Nat → α) (a m b : Nat) (g : Nat → α) : Prop := (∀ t, t < b - m → g (a + t) = f (m + t)) ∧ (∀ t, t < m - a → g (a + (b - m) + t) = f (a + t)) ∧ ∀ k, k < a ∨ b ≤ k → g k = f k
/-- What is left to do of a rotation: i before m, j behind it. -/
structure RotI (f : Nat → α) (a m b i j : Nat) (g : Nat → α) : Prop where
  hi : i ≤ m - a
  hj : j ≤ b - m
  ok : ∀ T : Nat → α, Rot f a m b T → (∀ k, k < m - i ∨ m + j ≤ k → g k = T k) ∧ (∀ t, t < j → T (m - i + t) = g (m + t)) ∧ (∀ t, t < i → T (m - i + j + t) = g (m - i + t))
  sw : Sw a b f g
theorem RotI.start (f : Nat → α) (a m b : Nat) (h1 : a ≤ m) (h2 : m ≤ b) : RotI f a m b (m - a) (b - m) f := by
  refine ⟨Nat.le_refl _, Nat.le_refl _, fun T hT => ⟨fun k hk => (hT.2.2 k (by omega)).symm, fun t ht => ?_, fun t ht => ?_⟩, .refl⟩
  · rw [← hT.1 t ht]; congr 1; omega
  · rw [show m - (m - a) + (b - m) + t = a + (b - m) + t by omega, hT.2.1 t ht]; congr 1; omega
theorem RotI.big {f g : Nat → α} {a m b i j : Nat} (h : RotI f a m b i j g) (h1 : a ≤ m) (h2 : m ≤ b) (hij : j < i) : RotI f a m b (i - j) j (srF g (m - i) m j) := by
  have hi := h.hi
  have hj := h.hj
  have hs := srF_spec g (m - i) m j (by omega)
  refine ⟨by omega, hj, fun T hT => ?_, h.sw.trans (srF_sw g (m - i) m a b (by omega) (by omega) j (by omega) (by omega))⟩
  obtain ⟨o1, o2, o3⟩ := h.ok T hT
  refine ⟨fun k hk => ?_, fun t ht => ?_, fun t ht => ?_⟩
  · rw [hs k]
    by_cases e1 : m - i ≤ k ∧ k < m - i + j
    · rw [if_pos e1, ← o2 (k - (m - i)) (by omega)]; congr 1; omega
    · rw [if_neg e1, if_neg (by omega)]; exact o1 k (by omega)
  · rw [hs (m + t), if_neg (by omega), if_pos (by omega)]
    have := o3 t (by omega)
    rw [show m - (i - j) + t = m - i + j + t by omega, this]; congr 1; omega
  · rw [hs, if_neg (by omega), if_neg (by omega)]
    have := o3 (j + t) (by omega)
    rw [show m - (i - j) + j + t = m - i + j + (j + t) by omega, this]; congr 1; omega
theorem RotI.small {f g : Nat → α} {a m b i j : Nat} (h : RotI f a m b i j g) (h1 : a ≤ m) (h2 : m ≤ b) (hij : i < j) : RotI f a m b i (j - i) (srF g (m - i) (m + j - i) i) := by
  have hi := h.hi
  have hj := h.hj
  have hs := srF_spec g (m - i) (m + j - i) i (by omega)
  refine ⟨hi, by omega, fun T hT => ?_, h.sw.trans (srF_sw g (m - i) (m + j - i) a b (by omega) (by omega) i (by omega) (by omega))⟩
  obtain ⟨o1, o2, o3⟩ := h.ok T hT
  refine ⟨fun k hk => ?_, fun t ht => ?_, fun t ht => ?_⟩
  · rw [hs k]
    by_cases e1 : m + j - i ≤ k ∧ k < m + j - i + i
    · rw [if_neg (by omega), if_pos e1, ← o3 (k - (m + j - i)) (by omega)]; congr 1; omega
    · rw [if_neg (by omega), if_neg e1]; exact o1 k (by omega)
  · rw [hs (m + t), if_neg (by omega), if_neg (by omega)]
    exact o2 t (by omega)
  · rw [hs, if_pos (by omega)]
    have := o2 (j - i + t) (by omega)
    rw [show m - i + (j - i) + t = m - i + (j - i + t) by omega, this]; congr 1; omega
theorem RotI.done {f g : Nat → α} {a m b i : Nat} (h : RotI f a m b i i g) (h1 : a ≤ m) (h2 : m ≤ b) : Rot f a m b (srF g (m - i) m i) ∧ Sw a b f (srF g (m - i) m i) := by
  have hi := h.hi
  have hj := h.hj
  have hs := srF_spec g (m - i) m i (by omega)
  refine ⟨?_, h.sw.trans (srF_sw g (m - i) m a b (by omega) (by omega) i (by omega) (by omega))⟩
  have hex : ∃ T, Rot f a m b T := ⟨fun k => if k < a ∨ b ≤ k then f k else if k < a + (b - m) then f (m + (k - a)) else f (a + (k - (a + (b - m)))), fun t ht => by
      simp only []; rw [if_neg (by omega), if_pos (by omega)]; congr 1; omega, fun t ht => by
      simp only []; rw [if_neg (by omega), if_neg (by omega)]; congr 1; omega, fun k hk => by simp only []; rw [if_pos hk]⟩
  obtain ⟨T, hT⟩ := hex
  obtain ⟨o1, o2, o3⟩ := h.ok T hT
  have e : srF g (m - i) m i = T := by
    funext k
    rw [hs k]
    by_cases e1 : m - i ≤ k ∧ k < m - i + i
    · rw [if_pos e1, ← o2 (k - (m - i)) (by omega)]; congr 1; omega
    · rw [if_neg e1]
      by_cases e2 : m ≤ k ∧ k < m + i
      · rw [if_pos e2]
        have := o3 (k - m) (by omega)
        rw [← this]; congr 1; omega
      · rw [if_neg e2]; exact o1 k (by omega)
  rw [e]; exact hT

variable (c : α → α → Int)
/-- In order between a and b. -/
def SrtF (a b : Nat) (f : Nat → α) : Prop := ∀ i j, a ≤ i → i < j → j < b → c (f i) (f j) ≤ 0
structure Total (c : α → α → Int) : Prop where
  trans : ∀ x y z, c x y ≤ 0 → c y z ≤ 0 → c x z ≤ 0
  flip : ∀ x y, c y x = -c x y
variable {c}
theorem SrtF.sub {a b a' b' : Nat} {f : Nat → α} (h : SrtF c a b f) (h1 : a ≤ a') (h2 : b' ≤ b) : SrtF c a' b' f := fun i j p1 p2 p3 => h i j (by omega) p2 (by omega)
theorem SrtF.congr {a b : Nat} {f g : Nat → α} (h : SrtF c a b f) (e : ∀ k, a ≤ k → k < b → g k = f k) : SrtF c a b g := fun i j p1 p2 p3 => by rw [e i p1 (by omega), e j (by omega) p3]; exact h i j p1 p2 p3
theorem SrtF.list {n : Nat} {f : Nat → α} (h : SrtF c 0 n f) : ((List.range n).map f).Pairwise fun x y => c x y ≤ 0 := by
  rw [List.pairwise_map]
  refine List.Pairwise.imp_of_mem (R := fun i j => i < j) ?_ List.pairwise_lt_range
  intro i j _ hj hij
  exact h i j (by omega) hij (by simpa using hj)
/-- An element that is moved down to its place behind sorted ones: one round of an insertion sort's inner loop. -/
theorem ins_stop {a j b : Nat} {f : Nat → α} (hT : Total c) (h1 : SrtF c a j f) (h2 : SrtF c j b f) (h3 : ∀ p q, a ≤ p → p < j → j < q → q < b → c (f p) (f q) ≤ 0) (hj : j = a ∨ 0 ≤ c (f j) (f (j - 1))) (hab : a ≤ j) (hjb : j < b) : SrtF c a b f := by
  intro p q hp hpq hq
  rcases Nat.lt_or_ge q j with e | e
  · exact h1 p q hp hpq e
  · rcases Nat.lt_or_ge p j with e2 | e2
    · rcases Nat.lt_or_ge j q with e3 | e3
      · exact h3 p q hp e2 e3 hq
      · obtain rfl : q = j := by omega
        rcases hj with e4 | e4
        · omega
        · have hlast : c (f (q - 1)) (f q) ≤ 0 := by have := hT.flip (f (q - 1)) (f q); omega
          rcases Nat.lt_or_ge p (q - 1) with e5 | e5
          · exact hT.trans _ _ _ (h1 p (q - 1) hp e5 (by omega)) hlast
          · obtain rfl : p = q - 1 := by omega
            exact hlast
    · exact h2 p q e2 hpq hq
/-- Two sorted halves, of which the one is nowhere above the other. -/
theorem srt_join {a m b : Nat} {f : Nat → α} (h1 : SrtF c a m f) (h2 : SrtF c m b f) (h3 : ∀ p q, a ≤ p → p < m → m ≤ q → q < b → c (f p) (f q) ≤ 0) : SrtF c a b f := by
  intro p q hp hpq hq
  rcases Nat.lt_or_ge q m with e | e
  · exact h1 p q hp hpq e
  · rcases Nat.lt_or_ge p m with e2 | e2
    · exact h3 p q hp e2 e hq
    · exact h2 p q e2 hpq hq
/-- Behind the recursive merges. -/
theorem srt_halves {a mid b : Nat} {g g1 g2 : Nat → α} (hx : ∀ p q, a ≤ p → p < mid → mid ≤ q → q < b → c (g p) (g q) ≤ 0)
    (s1 : Sw a mid g g1) (k1 : SrtF c a mid g1) (s2 : Sw mid b g1 g2) (k2 : SrtF c mid b g2) : SrtF c a b g2 := by
  refine srt_join (m := mid) (k1.congr fun k p1 p2 => s2.out (.inl p2)) k2 fun p q p1 p2 p3 p4 => ?_
  obtain ⟨i, i1, i2, e1⟩ := s1.at p p1 p2
  obtain ⟨j, j1, j2, e2⟩ := s2.at q p3 p4
  rw [s2.out (.inl p2), e1, e2, s1.out (.inr j1)]
  exact hx i j i1 i2 j1 j2
/-- Behind the rotation of a merge. -/
theorem merge_cut {a m b mid start en : Nat} {f g : Nat → α} (hT : Total c) (h1 : SrtF c a m f) (h2 : SrtF c m b f) (ha : a ≤ start) (hs : start ≤ m) (he : m ≤ en) (hb : en ≤ b) (hsm : start ≤ mid) (hm : en + start = mid + m)
    (hlo : start = a ∨ en = b ∨ c (f (start - 1)) (f en) ≤ 0) (hup : start = m ∨ en = m ∨ c (f (en - 1)) (f start) ≤ 0) (hg : Rot f start m en g) :
    SrtF c a start g ∧ SrtF c start mid g ∧ SrtF c mid en g ∧ SrtF c en b g ∧ ∀ p q, a ≤ p → p < mid → mid ≤ q → q < b → c (g p) (g q) ≤ 0 := by
  obtain ⟨g1, g2, g3⟩ := hg
  have e1 : ∀ k, k < start → g k = f k := fun k hk => g3 k (.inl hk)
  have e2 : ∀ k, start ≤ k → k < mid → g k = f (m + (k - start)) := fun k p1 p2 => by rw [← g1 (k - start) (by omega)]; congr 1; omega
  have e3 : ∀ k, mid ≤ k → k < en → g k = f (start + (k - mid)) := fun k p1 p2 => by rw [← g2 (k - mid) (by omega)]; congr 1; omega
  have e4 : ∀ k, en ≤ k → g k = f k := fun k hk => g3 k (.inr hk)
  have le : ∀ {x y : α}, x = y → c x y ≤ 0 := fun {x y} e => by subst e; have := hT.flip x x; omega
  refine ⟨fun p q p1 p2 p3 => ?_, fun p q p1 p2 p3 => ?_, fun p q p1 p2 p3 => ?_, fun p q p1 p2 p3 => ?_, fun p q p1 p2 p3 p4 => ?_⟩
  · rw [e1 p (by omega), e1 q p3]; exact h1 p q p1 p2 (by omega)
  · rw [e2 p p1 (by omega), e2 q (by omega) p3]; exact h2 _ _ (by omega) (by omega) (by omega)
  · rw [e3 p p1 (by omega), e3 q (by omega) p3]; exact h1 _ _ (by omega) (by omega) (by omega)
  · rw [e4 p p1, e4 q (by omega)]; exact h2 _ _ (by omega) p2 p3
  · have mono1 : ∀ i j, a ≤ i → i ≤ j → j < m → c (f i) (f j) ≤ 0 := fun i j q1 q2 q3 => by
      rcases Nat.lt_or_ge i j with e | e
      · exact h1 i j q1 e q3
      · exact le (by congr 1; omega)
    have mono2 : ∀ i j, m ≤ i → i ≤ j → j < b → c (f i) (f j) ≤ 0 := fun i j q1 q2 q3 => by
      rcases Nat.lt_or_ge i j with e | e
      · exact h2 i j q1 e q3
      · exact le (by congr 1; omega)
    rcases Nat.lt_or_ge p start with x | x
    · rw [e1 p x]
      rcases Nat.lt_or_ge q en with y | y
      · rw [e3 q p3 y]; exact mono1 _ _ p1 (by omega) (by omega)
      · rw [e4 q y]
        rcases hlo with z | z | z
        · omega
        · omega
        · exact hT.trans _ _ _ (mono1 p (start - 1) p1 (by omega) (by omega)) (hT.trans _ _ _ z (mono2 en q (by omega) y p4))
    · rw [e2 p x p2]
      rcases Nat.lt_or_ge q en with y | y
      · rw [e3 q p3 y]
        rcases hup with z | z | z
        · omega
        · omega
        · exact hT.trans _ _ _ (mono2 _ (en - 1) (by omega) (by omega) (by omega)) (hT.trans _ _ _ z (mono1 start _ ha (by omega) (by omega)))
      · rw [e4 q y]; exact mono2 _ _ (by omega) (by omega) p4
/-- The first one moved up to its place: [a] before [m, b), m = a + 1. -/
theorem up_place {a b i : Nat} {f g : Nat → α} (hT : Total c) (h2 : SrtF c (a + 1) b f) (ha : a + 1 ≤ i) (hi : i ≤ b) (hlo : ∀ k, a + 1 ≤ k → k < i → c (f k) (f a) ≤ 0) (hup : ∀ k, i ≤ k → k < b → 0 ≤ c (f k) (f a)) (hg : Rot f a (a + 1) i g) : SrtF c a b g := by
  obtain ⟨g1, g2, g3⟩ := hg
  have e1 : ∀ k, a ≤ k → k < i - 1 → g k = f (k + 1) := fun k p1 p2 => by have := g1 (k - a) (by omega); rw [show a + (k - a) = k by omega] at this; rw [this]; congr 1; omega
  have e2 : g (i - 1) = f a := by have := g2 0 (by omega); rw [show a + (i - (a + 1)) + 0 = i - 1 by omega] at this; rw [this]; rfl
  have e3 : ∀ k, i ≤ k → g k = f k := fun k hk => g3 k (.inr hk)
  intro p q p1 p2 p3
  rcases Nat.lt_or_ge q (i - 1) with x | x
  · rw [e1 p p1 (by omega), e1 q (by omega) x]; exact h2 _ _ (by omega) (by omega) (by omega)
  · rcases Nat.lt_or_ge q i with y | y
    · obtain rfl : q = i - 1 := by omega
      rw [e2, e1 p p1 p2]; exact hlo _ (by omega) (by omega)
    · rw [e3 q y]
      rcases Nat.lt_or_ge p (i - 1) with z | z
      · rw [e1 p p1 z]; exact h2 _ _ (by omega) (by omega) p3
      · rcases Nat.lt_or_ge p i with v | v
        · obtain rfl : p = i - 1 := by omega
          rw [e2]; have := hup q y p3; have := hT.flip (f q) (f a); omega
        · rw [e3 p v]; exact h2 _ _ (by omega) p2 p3
/-- The last one moved down to its place: [a, m) before [m], b = m + 1. -/
theorem down_place {a m i : Nat} {f g : Nat → α} (hT : Total c) (h1 : SrtF c a m f) (ha : a ≤ i) (hi : i ≤ m) (hlo : ∀ k, a ≤ k → k < i → 0 ≤ c (f m) (f k)) (hup : ∀ k, i ≤ k → k < m → c (f m) (f k) ≤ 0) (hg : Rot f i m (m + 1) g) : SrtF c a (m + 1) g := by
  obtain ⟨g1, g2, g3⟩ := hg
  have e1 : ∀ k, k < i → g k = f k := fun k hk => g3 k (.inl hk)
  have e2 : g i = f m := g1 0 (by omega)
  have e3 : ∀ k, i < k → k < m + 1 → g k = f (k - 1) := fun k p1 p2 => by have := g2 (k - (i + 1)) (by omega); rw [show i + (m + 1 - m) + (k - (i + 1)) = k by omega] at this; rw [this]; congr 1; omega
  intro p q p1 p2 p3
  rcases Nat.lt_trichotomy q i with x | x | x
  · rw [e1 p (by omega), e1 q x]; exact h1 _ _ p1 p2 (by omega)
  · subst x; rw [e2, e1 p p2]; have := hlo p p1 p2; have := hT.flip (f m) (f p); omega
  · rw [e3 q x p3]
    rcases Nat.lt_trichotomy p i with y | y | y
    · rw [e1 p y]; exact h1 _ _ p1 (by omega) (by omega)
    · subst y; rw [e2]; exact hup _ (by omega) (by omega)
    · rw [e3 p y (by omega)]; exact h1 _ _ (by omega) (by omega) (by omega)
/-- The inner loop of an insertion sort: f is sorted below j, and from j to i, and nothing below j is above what lies behind j. -/
structure InsI (c : α → α → Int) (a i j : Nat) (f : Nat → α) : Prop where
  lo : SrtF c a j f
  hi : SrtF c j (i + 1) f
  ac : ∀ p q, a ≤ p → p < j → j < q → q < i + 1 → c (f p) (f q) ≤ 0
theorem InsI.start {a i : Nat} {f : Nat → α} (h : SrtF c a i f) : InsI c a i i f := ⟨h, fun p q p1 p2 p3 => by omega, fun p q p1 p2 p3 p4 => by omega⟩
theorem InsI.step {a i j : Nat} {f : Nat → α} (h : InsI c a i j f) (h1 : a < j) (h2 : j ≤ i) (hlt : c (f j) (f (j - 1)) < 0) : InsI c a i (j - 1) (swF f j (j - 1)) := by
  have e1 : ∀ k, k < j - 1 → swF f j (j - 1) k = f k := fun k hk => by unfold swF; rw [if_neg (by omega), if_neg (by omega)]
  have e2 : swF f j (j - 1) (j - 1) = f j := by unfold swF; rw [if_neg (by omega), if_pos rfl]
  have e3 : swF f j (j - 1) j = f (j - 1) := by unfold swF; rw [if_pos rfl]
  have e4 : ∀ k, j < k → swF f j (j - 1) k = f k := fun k hk => by unfold swF; rw [if_neg (by omega), if_neg (by omega)]
  refine ⟨fun p q p1 p2 p3 => ?_, fun p q p1 p2 p3 => ?_, fun p q p1 p2 p3 p4 => ?_⟩
  · rw [e1 p (by omega), e1 q (by omega)]; exact h.lo p q p1 p2 (by omega)
  · rcases Nat.lt_trichotomy p j with x | x | x
    · obtain rfl : p = j - 1 := by omega
      rw [e2]
      rcases Nat.lt_trichotomy q j with y | y | y
      · omega
      · subst y; rw [e3]; omega
      · rw [e4 q y]; exact h.hi j q (Nat.le_refl _) y p3
    · subst x
      rw [e3, e4 q p2]; exact h.ac (p - 1) q (by omega) (by omega) p2 p3
    · rw [e4 p x, e4 q (by omega)]; exact h.hi p q (by omega) p2 p3
  · rw [e1 p (by omega)]
    rcases Nat.lt_trichotomy q j with y | y | y
    · omega
    · subst y; rw [e3]; exact h.lo p (q - 1) p1 (by omega) (by omega)
    · rw [e4 q y]; exact h.ac p q p1 (by omega) y p4
theorem InsI.stop {a i j : Nat} {f : Nat → α} (hT : Total c) (h : InsI c a i j f) (h1 : a ≤ j) (h2 : j ≤ i) (hj : j = a ∨ 0 ≤ c (f j) (f (j - 1))) : SrtF c a (i + 1) f := ins_stop hT h.lo h.hi h.ac hj h1 (by omega)
/-- Any two places may be compared. -/
def DF (D : α → α → Prop) (n : Nat) (f : Nat → α) : Prop := ∀ i j, i < n → j < n → i ≠ j → D (f i) (f j)
theorem DF.sw1 {D : α → α → Prop} {n : Nat} {f : Nat → α} (h : DF D n f) {i j : Nat} (hi : i < n) (hj : j < n) : DF D n (swF f i j) := by
  intro p q hp hq hne
  unfold swF
  (repeat' split) <;> first | (exfalso; omega) | (apply h <;> omega) | skip
  all_goals (subst_vars; first | (exfalso; omega) | (apply h <;> omega))
theorem DF.sw {D : α → α → Prop} {n a b : Nat} {f g : Nat → α} (h : DF D n f) (hs : Sw a b f g) (hb : b ≤ n) : DF D n g := by
  induction hs with
  | refl => exact h
  | step g' i j _ p1 p2 p3 p4 ih => exact ih.sw1 (by omega) (by omega)
theorem DF.of_list {D : α → α → Prop} [Inhabited α] (hD : ∀ x y, D x y → D y x) {l : List α} (h : l.Pairwise D) : DF D l.length fun i => l.getD i default := by
  intro i j hi hj hne
  have hp := List.pairwise_iff_getElem.1 h
  simp only [List.getD_eq_getElem?_getD, List.getElem?_eq_getElem hi, List.getElem?_eq_getElem hj, Option.getD_some]
  rcases Nat.lt_or_ge i j with e | e
  · exact hp i j hi hj e
  · exact hD _ _ (hp j i hj hi (by omega))
theorem list_of_fn [Inhabited α] (l : List α) : (List.range l.length).map (fun i => l.getD i default) = l := by
  apply List.ext_getElem
  · simp
  · intro i h1 h2
    simp [List.getElem?_eq_getElem h2]
end
end PA
/- A row of acts in memory, its places by a function; an insertion sort of acts. -/
namespace Go.Proofs.YtodipneapffjdaaGreatDoor
open Go.RowKit PA
def kA : Nat := 19
theorem sizeAct (w : World) : (Go.sizeOf 37).run Tryz.prog w = .ok kA w := by kernel_rfl
instance : Inhabited Ac := ⟨Ac.zero⟩
/-- Acts in block g: place k holds f k; tl: what lies behind them. -/
def arow (g N : Nat) (f : Nat → Ac) (tl : List Value) : Assn := blk g (.cells (acs ((List.range N).map f) ++ tl).toArray 37 (0, 0))
def setA (f : Nat → Ac) (i : Nat) (x : Ac) : Nat → Ac := fun k => if k = i then x else f k
section
variable {W w : World} {A : Assn} {g N : Nat} {f : Nat → Ac} {tl : List Value}
theorem arow_ld (h : Sat W w (sep (arow g N f tl) A)) (i : Nat) (hi : i < N) : Sem.run Tryz.prog (loadCellsFrom ⟨g, i * 19, none⟩ 0 kA #[]) w = .ok (f i).cells.toArray w := by
  have hl : (f i).cells.length = kA := rfl
  have := run_loadCells_list (P := Tryz.prog) w ⟨g, i * 19, none⟩ (f i).cells (fun j v hj => by
    have hjl : j < 19 := (List.getElem?_eq_some_iff.1 hj).1
    have e : (⟨g, i * 19, none⟩ : Addr).add j = ⟨g, i * 19 + j, none⟩ := by unfold Addr.add; split <;> simp_all
    rw [e, Sat.cell h]
    rw [List.getElem?_toArray]
    show (acs ((List.range N).map f) ++ tl)[i * 19 + j]? = some v
    rw [List.getElem?_append_left (by rw [acs_len]; simp; omega), acs_at _ i (by simpa using hi) j hjl]
    simpa using hj)
  rw [hl] at this
  exact this
theorem acs_set (xs : List Ac) (i : Nat) (hi : i < xs.length) (x : Ac) : acs (xs.set i x) = (acs xs).take (i * 19) ++ x.cells ++ (acs xs).drop (i * 19 + 19) := by
  have e1 : acs (xs.take i) = (acs xs).take (i * 19) := by
    have h := acs_append (xs.take i) (xs.drop i)
    rw [List.take_append_drop] at h
    have hl : (acs (xs.take i)).length = i * 19 := by rw [acs_len, List.length_take]; omega
    rw [h, ← hl, List.take_left]
  have e2 : acs (xs.drop (i + 1)) = (acs xs).drop (i * 19 + 19) := by
    have h := acs_append (xs.take (i + 1)) (xs.drop (i + 1))
    rw [List.take_append_drop] at h
    have hl : (acs (xs.take (i + 1))).length = i * 19 + 19 := by rw [acs_len, List.length_take]; omega
    rw [h, ← hl, List.drop_left]
  rw [List.set_eq_take_append_cons_drop, if_pos hi, acs_append, e1, ← e2]
  show _ ++ (x.cells ++ acs (xs.drop (i + 1))) = _
  rw [List.append_assoc]
theorem range_set (f : Nat → Ac) (N i : Nat) (x : Ac) : (List.range N).map (setA f i x) = ((List.range N).map f).set i x := by
  apply List.ext_getElem
  · simp
  · intro k h1 h2
    simp only [List.getElem_map, List.getElem_range, List.getElem_set, setA]
    by_cases e : k = i
    · subst e; simp
    · simp [e, Ne.symm e]
theorem arow_st (h : Sat W w (sep (arow g N f tl) A)) (i : Nat) (hi : i < N) (x : Ac) :
    ∃ w', Sem.run Tryz.prog (storeCells ⟨g, i * 19, none⟩ x.cells 0) w = .ok () w' ∧ Sat W w' (sep (arow g N (setA f i x) tl) A) := by
  have hl : (acs ((List.range N).map f)).length = N * 19 := by rw [acs_len]; simp
  have hst := run_storeCells_at Tryz.prog g (i * 19) 37 x.cells 0 (acs ((List.range N).map f) ++ tl).toArray w h.blk_heap (by show i * 19 + 0 + 19 ≤ _; simp [hl]; omega) (x.one)
  refine ⟨_, hst, ?_⟩
  have h2 := h.setRow (((acs ((List.range N).map f) ++ tl).toArray.toList.take (i * 19 + 0)) ++ x.cells ++ (acs ((List.range N).map f) ++ tl).toArray.toList.drop (i * 19 + 0 + x.cells.length)).toArray
  unfold arow
  rw [range_set, acs_set _ i (by simpa using hi)]
  have e : (acs ((List.range N).map f) ++ tl).toArray.toList.take (i * 19 + 0) ++ x.cells ++ (acs ((List.range N).map f) ++ tl).toArray.toList.drop (i * 19 + 0 + x.cells.length) = (acs ((List.range N).map f)).take (i * 19) ++ x.cells ++ (acs ((List.range N).map f)).drop (i * 19 + 19) ++ tl := by
    show (acs ((List.range N).map f) ++ tl).take (i * 19) ++ x.cells ++ (acs ((List.range N).map f) ++ tl).drop (i * 19 + 19) = _
    rw [List.take_append_of_le_length (by omega), List.drop_append_of_le_length (by omega), List.append_assoc, List.append_assoc, List.append_assoc]
  rw [e] at h2 ⊢
  exact h2
theorem swF_set (f : Nat → Ac) (i j : Nat) : setA (setA f i (f j)) j (f i) = swF f j i := by
  funext k
  unfold setA swF
  rfl
end
end Go.Proofs.YtodipneapffjdaaGreatDoor
