/- What the known hashes give: the hash of every block, from the hashes of the outside and the pairs of the range. Plain. -/
import Derived.Test.YtcmjbjlliehdiaaDoorGAuthmapSound26
namespace Go.Proofs.YtcmjbjlliehdiaaDoor
open Go Go.RowKit PA
def isOut (a b : Int) (x : Nat × Int) : Prop := bLast x < a ∨ b < bFirst x
instance (a b : Int) (x : Nat × Int) : Decidable (isOut a b x) := by unfold isOut; infer_instance
def hR (H : HMap) (M : KVs) (a b : Int) : Nat → Int → Option Nat
  | 0, n => if isOut a b (0, n) then H (0, n) else (M n).map (leafN n)
  | l + 1, n => if isOut a b (l + 1, n) then H (l + 1, n) else joinN (hR H M a b l (2 * n)) (hR H M a b l (2 * n + 1))
theorem outL_isOut {a b : Int} : ∀ (l : Nat) (n : Int) (x : Nat × Int), x ∈ outL a b l n → isOut a b x
  | 0, n, x, h => by
    rw [outL] at h
    split at h
    · rename_i ho
      rw [List.mem_singleton.1 h]; exact ho
    · cases h
  | l + 1, n, x, h => by
    rw [outL] at h
    split at h
    · rename_i ho
      rw [List.mem_singleton.1 h]; exact ho
    · split at h
      · cases h
      · rcases List.mem_append.1 h with h | h
        · exact outL_isOut l _ x h
        · exact outL_isOut l _ x h
theorem half_bounds (l : Nat) (n : Int) : bFirst (l, 2 * n) = bFirst (l + 1, n) ∧ bLast (l, 2 * n) + 1 = bFirst (l, 2 * n + 1) ∧ bLast (l, 2 * n + 1) = bLast (l + 1, n) ∧ bFirst (l, 2 * n) ≤ bLast (l, 2 * n) ∧ bFirst (l, 2 * n + 1) ≤ bLast (l, 2 * n + 1) := by
  unfold bFirst bLast
  dsimp only
  have e1 : n * 2 ^ (l + 1) = 2 * n * 2 ^ l := by rw [Int.pow_succ, Int.mul_comm (2 ^ l) 2, ← Int.mul_assoc, Int.mul_comm n 2]
  have e2 : (n + 1) * 2 ^ (l + 1) = (2 * n + 1 + 1) * 2 ^ l := by rw [Int.pow_succ, Int.mul_comm (2 ^ l) 2, ← Int.mul_assoc]; congr 1; omega
  have e3 : (2 * n + 1) * 2 ^ l = 2 * n * 2 ^ l + 2 ^ l := by rw [Int.add_mul, Int.one_mul]
  have e4 : (2 * n + 1 + 1) * 2 ^ l = 2 * n * 2 ^ l + 2 ^ l + 2 ^ l := by rw [Int.add_mul, Int.one_mul, e3]
  have hp := pow_pos2 l
  rw [e1, e2, e4, e3]
  omega
theorem first_le_last (l : Nat) (n : Int) : bFirst (l, n) ≤ bLast (l, n) := by
  unfold bFirst bLast
  dsimp only
  have hp := pow_pos2 l
  rw [Int.add_mul, Int.one_mul]
  omega
theorem outL_inside {a b : Int} {l : Nat} {n : Int} (h : a ≤ bFirst (l, n) ∧ bLast (l, n) ≤ b) : outL a b l n = [] := by
  have := first_le_last l n
  exact outL_in (by omega) h
/-- The blocks of the outside in a half are those of the whole. -/
theorem outL_sub {a b : Int} {l : Nat} {n : Int} {X : List (Nat × Int)} (ho : ¬ isOut a b (l + 1, n)) (h : ∀ y ∈ outL a b (l + 1) n, y ∈ X) : (∀ y ∈ outL a b l (2 * n), y ∈ X) ∧ ∀ y ∈ outL a b l (2 * n + 1), y ∈ X := by
  obtain ⟨h1, h2, h3, h4, h5⟩ := half_bounds l n
  by_cases hi : a ≤ bFirst (l + 1, n) ∧ bLast (l + 1, n) ≤ b
  · rw [outL_inside (l := l) (n := 2 * n) (by omega), outL_inside (l := l) (n := 2 * n + 1) (by omega)]
    exact ⟨fun y hy => (by cases hy), fun y hy => (by cases hy)⟩
  · rw [outL_halves ho hi] at h
    exact ⟨fun y hy => h y (List.mem_append_left _ hy), fun y hy => h y (List.mem_append_right _ hy)⟩
theorem compP_hR {a b : Int} {K : KMap} {H : HMap} {M : KVs} (h1 : ∀ y ∈ outL a b 12 0, K y = some (H y)) (h2 : ∀ y, ¬ isOut a b y → y.1 ≠ 0 → K y = none) (h3 : ∀ n, ¬ isOut a b (0, n) → (K (0, n)).getD none = (M n).map (leafN n)) :
    ∀ (l : Nat) (n : Int), (∀ y ∈ outL a b l n, y ∈ outL a b 12 0) → compP K l n = hR H M a b l n
  | 0, n, hs => by
    rw [compP, hR]
    by_cases ho : isOut a b (0, n)
    · rw [if_pos ho, h1 _ (hs (0, n) (by rw [outL_out ho]; simp))]; rfl
    · rw [if_neg ho, h3 n ho]
  | l + 1, n, hs => by
    rw [compP, hR]
    by_cases ho : isOut a b (l + 1, n)
    · rw [if_pos ho, h1 _ (hs (l + 1, n) (by rw [outL_out ho]; simp))]
    · rw [if_neg ho, h2 _ ho (by simp)]
      obtain ⟨s1, s2⟩ := outL_sub ho hs
      dsimp only
      rw [compP_hR h1 h2 h3 l _ s1, compP_hR h1 h2 h3 l _ s2]
theorem knE_at : ∀ (ps : PrL) (K : KMap) (y : Nat × Int), AscP ps → knE K ps y = if y.1 = 0 then (match lkP ps y.2 with | some v => some (some (leafN y.2 v)) | none => K y) else K y
  | [], K, y, _ => by simp [knE, lkP]
  | x :: ps, K, y, h => by
    have e : knE K (x :: ps) = knE (kset K (0, x.1) (some (leafN x.1 x.2))) ps := rfl
    rw [e, knE_at ps _ y h.cons.2]
    obtain ⟨l, n⟩ := y
    by_cases hl : l = 0
    · subst hl
      simp only [if_true, lkP]
      by_cases hn : n = x.1
      · subst hn
        have : lkP ps x.1 = none := lkP_none fun z hz => by have := h.cons.1 z hz; omega
        rw [this, if_pos rfl]
        simp [kset]
      · rw [if_neg hn]
        cases lkP ps n with
        | some v => rfl
        | none => simp [kset, hn]
    · simp only [if_neg hl]
      unfold kset
      rw [if_neg (fun e => hl (Prod.mk.inj e).1)]
/-- Check of well-formed proofs in plain: the root is that of the outside's hashes and of the pairs. -/
theorem checkP_H {a b : Int} (hab : 0 ≤ a ∧ a ≤ b ∧ b ≤ 4095) (H : HMap) (ps : PrL) (ha : AscP ps) (hw : wrongP a b ps none = false) (root : Nat) :
    checkP root a b ps (prfH H a b) = if (hR H (lkP ps) a b 12 0).getD 0 = root then 0 else 10 := by
  obtain ⟨K, hf, hK⟩ := formP_H hab.2.1 H ps
  unfold checkP
  rw [if_neg (by simpa using hab), if_neg (by rw [hw]; simp), hf]
  dsimp only
  have hc : compP (knE K ps) 12 0 = hR H (lkP ps) a b 12 0 := by
    refine compP_hR (fun y hy => ?_) (fun y ho hn => ?_) (fun n ho => ?_) 12 0 (fun y hy => hy)
    · rw [knE_at ps K y ha, hK y, if_pos hy]
      split
      · rename_i h0
        have hno : lkP ps y.2 = none := by
          cases hl : lkP ps y.2 with
          | none => rfl
          | some v =>
            exfalso
            have hmem : ∃ x ∈ ps, x.1 = y.2 := by
              have : ∀ (ps : PrL), lkP ps y.2 = some v → ∃ x ∈ ps, x.1 = y.2 := by
                intro ps
                induction ps with
                | nil => intro h; cases h
                | cons x ps ih =>
                  intro h
                  rw [lkP] at h
                  by_cases e : y.2 = x.1
                  · exact ⟨x, by simp, e.symm⟩
                  · rw [if_neg e] at h
                    obtain ⟨z, hz, e2⟩ := ih h
                    exact ⟨z, by simp [hz], e2⟩
              exact this ps hl
            obtain ⟨x, hx, hxe⟩ := hmem
            have hrg : a ≤ x.1 ∧ x.1 ≤ b := by
              have : ∀ (ps : PrL) (o : Option Int), wrongP a b ps o = false → ∀ x ∈ ps, a ≤ x.1 ∧ x.1 ≤ b := by
                intro ps
                induction ps with
                | nil => intro o _ x hx; cases hx
                | cons z ps ih =>
                  intro o h x hx
                  unfold wrongP at h
                  simp only [Bool.or_eq_false_iff, decide_eq_false_iff_not] at h
                  rcases List.mem_cons.1 hx with rfl | hx
                  · have := h.1.1.1; omega
                  · exact ih _ h.2 x hx
              exact this ps none hw x hx
            have ho := outL_isOut 12 0 y hy
            obtain ⟨yl, yn⟩ := y
            simp only at h0 hxe
            subst h0
            unfold isOut bLast bFirst at ho
            simp at ho
            omega
        rw [hno]
      · rfl
    · rw [knE_at ps K y ha, if_neg hn, hK y, if_neg (fun hm => ho (outL_isOut 12 0 y hm))]
    · rw [knE_at ps K (0, n) ha, if_pos rfl, hK (0, n), if_neg (fun hm => ho (outL_isOut 12 0 _ hm))]
      cases lkP ps n <;> rfl
  rw [hc]
theorem hR_hb {a b : Int} {M : KVs} {P : KVs} (hP : ∀ k, a ≤ k → k ≤ b → P k = M k) : ∀ (l : Nat) (n : Int), hR (fun x => hbN M x.1 x.2) P a b l n = hbN M l n
  | 0, n => by
    rw [hR]
    split
    · rfl
    · rename_i ho
      rw [hbN, hP n (by unfold isOut bLast bFirst at ho; simp at ho; omega) (by unfold isOut bLast bFirst at ho; simp at ho; omega)]
  | l + 1, n => by
    rw [hR]
    split
    · rfl
    · rw [hR_hb hP l, hR_hb hP l, hbN]
/-! ### the pairs of a range -/
theorem lk_pairsL (M : KVs) (a b : Int) : ∀ (ks : List Int), ks.Pairwise (· < ·) → ∀ k, lkP (pairsL M a b ks) k = if k ∈ ks ∧ a ≤ k ∧ k ≤ b then some ((M k).getD []) else none
  | [], _, k => by simp [pairsL, lkP]
  | x :: ks, h, k => by
    have hc := List.pairwise_cons.1 h
    have ih := lk_pairsL M a b ks hc.2 k
    by_cases hx : inR a b x = true
    · have e : pairsL M a b (x :: ks) = (x, (M x).getD []) :: pairsL M a b ks := by simp [pairsL, hx]
      rw [e, lkP]
      by_cases hk : k = x
      · subst hk
        have : a ≤ k ∧ k ≤ b := by unfold inR at hx; simpa using hx
        simp [this]
      · rw [if_neg hk, ih]
        simp [hk]
    · have e : pairsL M a b (x :: ks) = pairsL M a b ks := by simp [pairsL, hx]
      rw [e, ih]
      by_cases hk : k = x
      · subst hk
        have h1 : ¬ (a ≤ k ∧ k ≤ b) := by unfold inR at hx; simpa using hx
        have h2 : k ∉ ks := fun hm => by have := hc.1 k hm; omega
        simp [h1]
      · simp [hk]
theorem pairsL_asc (M : KVs) (a b : Int) (ks : List Int) (h : ks.Pairwise (· < ·)) : AscP (pairsL M a b ks) := by
  unfold AscP pairsL
  rw [List.map_map]
  rw [show ((fun x : Int × List UInt8 => x.1) ∘ fun k => (k, (M k).getD [])) = id from rfl, List.map_id]
  exact h.filter _
theorem wrong_asc {a b : Int} : ∀ {ps : PrL} {o : Option Int}, AscP ps → (∀ x ∈ ps, (a ≤ x.1 ∧ x.1 ≤ b) ∧ x.2.length ≤ 65536 ∧ ∀ k, o = some k → k < x.1) → wrongP a b ps o = false
  | [], _, _, _ => rfl
  | x :: ps, o, ha, h => by
    have hx := h x (by simp)
    unfold wrongP
    have h1 : decide (x.1 < a) = false := decide_eq_false (by omega)
    have h2 : decide (b < x.1) = false := decide_eq_false (by omega)
    have h4 : decide (65536 < x.2.length) = false := decide_eq_false (by omega)
    have h5 := wrong_asc (a := a) (b := b) (o := some x.1) ha.cons.2 (fun y hy => ⟨(h y (by simp [hy])).1, (h y (by simp [hy])).2.1, fun k hk => by
      cases hk
      exact ha.cons.1 y hy⟩)
    cases o with
    | none => rw [h1, h2, h4, h5]; rfl
    | some k =>
      have h3 : decide (x.1 ≤ k) = false := decide_eq_false (by have := hx.2.2 k rfl; omega)
      rw [h1, h2, h4, h5]
      simp only [h3]
      rfl
theorem pairsL_mem {M : KVs} {a b : Int} {ks : List Int} {x : Int × List UInt8} (h : x ∈ pairsL M a b ks) : x.1 ∈ ks ∧ (a ≤ x.1 ∧ x.1 ≤ b) ∧ x.2 = (M x.1).getD [] := by
  unfold pairsL at h
  obtain ⟨k, hk, rfl⟩ := List.mem_map.1 h
  obtain ⟨h1, h2⟩ := List.mem_filter.1 hk
  exact ⟨h1, by unfold inR at h2; simpa using h2, rfl⟩
/-- (Complete.) Range's pairs and proof are accepted under the root. -/
theorem check_range {M : KVs} {a b : Int} (hab : 0 ≤ a ∧ a ≤ b ∧ b ≤ 4095) {ks : List Int} (hk : AKeys M ks) (hl : ∀ k v, M k = some v → v.length ≤ 65536) : checkP (rootN M) a b (pairsL M a b ks) (rngP M a b) = 0 := by
  have ha := pairsL_asc M a b ks hk.1
  have hw : wrongP a b (pairsL M a b ks) none = false := wrong_asc ha fun x hx => by
    obtain ⟨h1, h2, h3⟩ := pairsL_mem hx
    refine ⟨h2, ?_, fun k e => by cases e⟩
    rw [h3]
    cases hm : M x.1 with
    | none => simp
    | some v => exact hl _ v hm
  rw [rngP_H, checkP_H hab _ _ ha hw, hR_hb (fun k h1 h2 => ?_)]
  · rw [if_pos]; rfl
  · rw [lk_pairsL M a b ks hk.1]
    by_cases hm : k ∈ ks
    · rw [if_pos ⟨hm, h1, h2⟩]
      have := (hk.2 k).1 hm
      cases hx : M k with
      | none => rw [hx] at this; cases this
      | some v => rfl
    · rw [if_neg (fun h => hm h.1)]
      cases hx : M k with
      | none => rfl
      | some v => exact absurd ((hk.2 k).2 (by rw [hx]; rfl)) hm
end Go.Proofs.YtcmjbjlliehdiaaDoor
