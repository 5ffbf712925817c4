/- What a change of a hash, of a value or of the pairs within a range does to the root that Check finds: plain. -/
import Derived.Test.YtcmjbjlliehdiaaDoorGAuthmapSoundSQke
import Derived.Test.YtcmjbjlliehdiaaDoorGAuthmapSound36
import Derived.Test.YtcmjbjlliehdiaaDoorGAuthmapSound22
import Derived.Test.YtcmjbjlliehdiaaDoorGAuthmapSound12
import Derived.Test.YtcmjbjlliehdiaaDoorGAuthmapSound47
import Derived.Test.YtcmjbjlliehdiaaDoorGAuthmapSound37
namespace Go.Proofs.YtcmjbjlliehdiaaDoor
open Go Go.RowKit PA
theorem filterMap_cg {X Y : Type} {f g : X → Option Y} : ∀ {l : List X}, (∀ x ∈ l, f x = g x) → l.filterMap f = l.filterMap g
  | [], _ => rfl
  | x :: l, h => by
    rw [List.filterMap_cons, List.filterMap_cons, h x (by simp), filterMap_cg (l := l) fun y hy => h y (by simp [hy])]
/-! ### changes within the range leave the proof as it is -/
theorem hb_out {M M' : KVs} {a b : Int} (h : ∀ k, k < a ∨ b < k → M k = M' k) {x : Nat × Int} (hx : isOut a b x) : hbN M x.1 x.2 = hbN M' x.1 x.2 :=
  hbN_same x.1 x.2 fun k hk => h k (by unfold isOut bLast bFirst at hx; unfold inB at hk; omega)
theorem rngP_same {M M' : KVs} {a b : Int} (h : ∀ k, k < a ∨ b < k → M k = M' k) : rngP M a b = rngP M' a b := by
  rw [rngP_H, rngP_H]
  have key : ∀ x ∈ outL a b 12 0, hbN M x.1 x.2 = hbN M' x.1 x.2 := fun x hx => hb_out h (outL_isOut 12 0 x hx)
  unfold prfH
  congr 1
  · unfold leftH
    exact filterMap_cg fun x hx => by dsimp only; rw [key x hx]
  · unfold rightH
    exact filterMap_cg fun x hx => by dsimp only; rw [key x hx]
  · unfold shapeH
    exact List.map_congr_left fun x hx => by simp only [key x hx]
/-! ### the hash of two halves -/
theorem nodeN_val (a b : Nat) (ha : a < 18446744073709551616) (hb : b < 18446744073709551616) : nodeN a b = sumU blockL [a, b] := by
  unfold nodeN sumN
  rw [List.map_cons, List.map_cons, List.map_nil, u64N_i64 a ha, u64N_i64 b hb]
theorem nodeN_left {a b c : Nat} (ha : a < 18446744073709551616) (hb : b < 18446744073709551616) (hc : c < 18446744073709551616) (h : nodeN a c = nodeN b c) : a = b := by
  rw [nodeN_val a c ha hc, nodeN_val b c hb hc] at h
  exact sumU_set blockL [] [c] a b (fun z hz => by cases hz) (fun z hz => by rw [List.mem_singleton.1 hz]; exact hc) ha hb h
theorem nodeN_right {a b c : Nat} (ha : a < 18446744073709551616) (hb : b < 18446744073709551616) (hc : c < 18446744073709551616) (h : nodeN c a = nodeN c b) : a = b := by
  rw [nodeN_val c a hc ha, nodeN_val c b hc hb] at h
  exact sumU_set blockL [c] [] a b (fun z hz => by rw [List.mem_singleton.1 hz]; exact hc) (fun z hz => by cases hz) ha hb h
def ltO (o : Option Nat) : Prop := ∀ h, o = some h → h < 18446744073709551616
theorem ltO.getD {o : Option Nat} (h : ltO o) : o.getD 0 < 18446744073709551616 := by
  cases o with
  | none => decide
  | some x => exact h x rfl
def diffO (o o' : Option Nat) : Prop := ∃ h h', o = some h ∧ o' = some h' ∧ h ≠ h'
theorem joinN_dl {o o' u : Option Nat} (h : diffO o o') (l1 : ltO o) (l2 : ltO o') (l3 : ltO u) : diffO (joinN o u) (joinN o' u) := by
  obtain ⟨x, y, rfl, rfl, hne⟩ := h
  have h1 := l1 x rfl
  have h2 := l2 y rfl
  have h3 := l3.getD
  refine ⟨nodeN x (u.getD 0), nodeN y (u.getD 0), ?_, ?_, fun e => hne (nodeN_left h1 h2 h3 e)⟩
  · cases u <;> rfl
  · cases u <;> rfl
theorem joinN_dr {o o' u : Option Nat} (h : diffO o o') (l1 : ltO o) (l2 : ltO o') (l3 : ltO u) : diffO (joinN u o) (joinN u o') := by
  obtain ⟨x, y, rfl, rfl, hne⟩ := h
  have h1 := l1 x rfl
  have h2 := l2 y rfl
  have h3 := l3.getD
  refine ⟨nodeN (u.getD 0) x, nodeN (u.getD 0) y, ?_, ?_, fun e => hne (nodeN_right h1 h2 h3 e)⟩
  · cases u <;> rfl
  · cases u <;> rfl
theorem hR_lt {H : HMap} {M : KVs} {a b : Int} (hH : ∀ x, ltO (H x)) : ∀ (l : Nat) (n : Int), ltO (hR H M a b l n)
  | 0, n => by
    rw [hR]
    split
    · exact hH _
    · intro h e
      obtain ⟨v, -, rfl⟩ := Option.map_eq_some_iff.1 e
      exact leafN_lt _ _
  | l + 1, n => by
    rw [hR]
    split
    · exact hH _
    · intro h e
      exact joinN_lt _ _ h e
/-! ### where the blocks of the outside lie -/
theorem outL_in_block {a b : Int} : ∀ (l : Nat) (n : Int) (x : Nat × Int), x ∈ outL a b l n → bFirst (l, n) ≤ bFirst x ∧ bLast x ≤ bLast (l, n) ∧ bFirst x ≤ bLast x
  | 0, n, x, h => by
    rw [outL] at h
    split at h
    · rw [List.mem_singleton.1 h]
      have := first_le_last 0 n
      omega
    · cases h
  | l + 1, n, x, h => by
    rw [outL] at h
    split at h
    · rw [List.mem_singleton.1 h]
      have := first_le_last (l + 1) n
      omega
    · split at h
      · cases h
      · obtain ⟨h1, h2, h3, h4, h5⟩ := half_bounds l n
        rcases List.mem_append.1 h with h | h
        · have := outL_in_block l _ x h
          omega
        · have := outL_in_block l _ x h
          omega
theorem outL_disj {a b : Int} {l : Nat} {n : Int} {x : Nat × Int} (h : x ∈ outL a b l (2 * n)) (h' : x ∈ outL a b l (2 * n + 1)) : False := by
  obtain ⟨h1, h2, h3, h4, h5⟩ := half_bounds l n
  have := outL_in_block l _ x h
  have := outL_in_block l _ x h'
  omega
theorem outL_nodup {a b : Int} : ∀ (l : Nat) (n : Int), (outL a b l n).Nodup
  | 0, n => by
    rw [outL]
    split
    · simp
    · simp
  | l + 1, n => by
    rw [outL]
    split
    · simp
    · split
      · simp
      · rw [List.nodup_append]
        refine ⟨outL_nodup l _, outL_nodup l _, fun x hx y hy e => ?_⟩
        subst e
        exact outL_disj hx hy
/-- One other hash outside: another root. -/
theorem hR_diff {H H' : HMap} {M : KVs} {a b : Int} {x0 : Nat × Int} (hH : ∀ x, ltO (H x)) (hH' : ∀ x, ltO (H' x)) (hd : diffO (H x0) (H' x0)) (he : ∀ x, x ≠ x0 → H x = H' x) :
    ∀ (l : Nat) (n : Int), (x0 ∈ outL a b l n → diffO (hR H M a b l n) (hR H' M a b l n)) ∧ (x0 ∉ outL a b l n → hR H M a b l n = hR H' M a b l n)
  | 0, n => by
    rw [hR, hR]
    by_cases ho : isOut a b (0, n)
    · rw [if_pos ho, if_pos ho, outL_out ho]
      refine ⟨fun h => ?_, fun h => ?_⟩
      · rw [← List.mem_singleton.1 h]; exact hd
      · exact he _ fun e => h (by rw [e]; simp)
    · rw [if_neg ho, if_neg ho]
      refine ⟨fun h => ?_, fun h => rfl⟩
      have ho' : ¬ (bLast (0, n) < a ∨ b < bFirst (0, n)) := ho
      rw [outL, if_neg ho'] at h
      cases h
  | l + 1, n => by
    rw [hR, hR]
    by_cases ho : isOut a b (l + 1, n)
    · rw [if_pos ho, if_pos ho, outL_out ho]
      refine ⟨fun h => ?_, fun h => ?_⟩
      · rw [← List.mem_singleton.1 h]; exact hd
      · exact he _ fun e => h (by rw [e]; simp)
    · rw [if_neg ho, if_neg ho]
      obtain ⟨p1, p2⟩ := hR_diff (M := M) (a := a) (b := b) hH hH' hd he l (2 * n)
      obtain ⟨q1, q2⟩ := hR_diff (M := M) (a := a) (b := b) hH hH' hd he l (2 * n + 1)
      have m1 := hR_lt (M := M) (a := a) (b := b) hH l (2 * n)
      have m2 := hR_lt (M := M) (a := a) (b := b) hH' l (2 * n)
      have m3 := hR_lt (M := M) (a := a) (b := b) hH l (2 * n + 1)
      have m4 := hR_lt (M := M) (a := a) (b := b) hH' l (2 * n + 1)
      by_cases hi : a ≤ bFirst (l + 1, n) ∧ bLast (l + 1, n) ≤ b
      · obtain ⟨h1, h2, h3, h4, h5⟩ := half_bounds l n
        rw [outL_inside hi]
        have e1 : x0 ∉ outL a b l (2 * n) := by rw [outL_inside (by omega)]; simp
        have e2 : x0 ∉ outL a b l (2 * n + 1) := by rw [outL_inside (by omega)]; simp
        exact ⟨fun h => (by cases h), fun _ => by rw [p2 e1, q2 e2]⟩
      · rw [outL_halves ho hi]
        refine ⟨fun h => ?_, fun h => ?_⟩
        · rcases List.mem_append.1 h with h | h
          · rw [← q2 (fun h' => outL_disj h h')]
            exact joinN_dl (p1 h) m1 m2 m3
          · rw [← p2 (fun h' => outL_disj h' h)]
            exact joinN_dr (q1 h) m3 m4 m1
        · rw [p2 (fun h' => h (List.mem_append_left _ h')), q2 (fun h' => h (List.mem_append_right _ h'))]
/-- Another value of one key within the range: another root. -/
theorem hR_diffM {H : HMap} {M M' : KVs} {a b k : Int} (hH : ∀ x, ltO (H x)) (hk : a ≤ k ∧ k ≤ b) (hd : diffO ((M k).map (leafN k)) ((M' k).map (leafN k))) (he : ∀ j, j ≠ k → M j = M' j) :
    ∀ (l : Nat) (n : Int), (inB l n k → diffO (hR H M a b l n) (hR H M' a b l n)) ∧ (¬ inB l n k → hR H M a b l n = hR H M' a b l n)
  | 0, n => by
    rw [hR, hR]
    by_cases ho : isOut a b (0, n)
    · rw [if_pos ho, if_pos ho]
      refine ⟨fun h => ?_, fun _ => rfl⟩
      rw [inB_zero] at h
      unfold isOut bLast bFirst at ho
      simp at ho
      omega
    · rw [if_neg ho, if_neg ho, inB_zero]
      refine ⟨fun h => ?_, fun h => ?_⟩
      · rw [← h]; exact hd
      · rw [he n (fun e => h e.symm)]
  | l + 1, n => by
    rw [hR, hR]
    by_cases ho : isOut a b (l + 1, n)
    · rw [if_pos ho, if_pos ho]
      refine ⟨fun h => ?_, fun _ => rfl⟩
      unfold inB at h
      unfold isOut bLast bFirst at ho
      dsimp only at ho
      omega
    · rw [if_neg ho, if_neg ho]
      obtain ⟨p1, p2⟩ := hR_diffM (H := H) (a := a) (b := b) hH hk hd he l (2 * n)
      obtain ⟨q1, q2⟩ := hR_diffM (H := H) (a := a) (b := b) hH hk hd he l (2 * n + 1)
      have m1 := hR_lt (M := M) (a := a) (b := b) hH l (2 * n)
      have m2 := hR_lt (M := M') (a := a) (b := b) hH l (2 * n)
      have m3 := hR_lt (M := M) (a := a) (b := b) hH l (2 * n + 1)
      have m4 := hR_lt (M := M') (a := a) (b := b) hH l (2 * n + 1)
      rw [inB_succ]
      refine ⟨fun h => ?_, fun h => ?_⟩
      · rcases h with h | h
        · rw [← q2 (fun h' => by have := inB_uniq h h'; omega)]
          exact joinN_dl (p1 h) m1 m2 m3
        · rw [← p2 (fun h' => by have := inB_uniq h h'; omega)]
          exact joinN_dr (q1 h) m3 m4 m1
      · rw [p2 (fun h' => h (.inl h')), q2 (fun h' => h (.inr h'))]
/-! ### one hash of a proof replaced -/
theorem filterMap_set {X : Type} [DecidableEq X] {f : X → Option Nat} (h : Nat) : ∀ {xs : List X}, xs.Nodup → ∀ {i : Nat} (hi : i < (xs.filterMap f).length),
    ∃ x0 ∈ xs, f x0 = some ((xs.filterMap f)[i]) ∧ xs.filterMap (fun y => if y = x0 then some h else f y) = (xs.filterMap f).set i h
  | [], _, i, hi => by simp at hi
  | x :: xs, hn, i, hi => by
    obtain ⟨hx, hn'⟩ := List.nodup_cons.1 hn
    cases hf : f x with
    | none =>
      have e : (x :: xs).filterMap f = xs.filterMap f := by simp [hf]
      obtain ⟨x0, h1, h2, h3⟩ := filterMap_set (f := f) h hn' (i := i) (by rw [e] at hi; exact hi)
      have hne : x ≠ x0 := fun e => hx (by rw [e]; exact h1)
      refine ⟨x0, by simp [h1], by simp only [e]; exact h2, ?_⟩
      rw [e, ← h3]
      simp [hne, hf]
    | some v =>
      have e : (x :: xs).filterMap f = v :: xs.filterMap f := by simp [hf]
      cases i with
      | zero =>
        refine ⟨x, by simp, by simp only [e, hf]; rfl, ?_⟩
        rw [e]
        have : xs.filterMap (fun y => if y = x then some h else f y) = xs.filterMap f := filterMap_cg fun y hy => by rw [if_neg (fun e => hx (by rw [← e]; exact hy))]
        simp [this]
      | succ i =>
        obtain ⟨x0, h1, h2, h3⟩ := filterMap_set (f := f) h hn' (i := i) (by rw [e] at hi; simpa using hi)
        have hne : x ≠ x0 := fun e => hx (by rw [e]; exact h1)
        refine ⟨x0, by simp [h1], by simp only [e]; simpa using h2, ?_⟩
        rw [e]
        simp [hne, hf, h3]
theorem prfH_left {H : HMap} {a b : Int} {i : Nat} (h : Nat) (hi : i < (prfH H a b).l.length) : ∃ x0 ∈ outL a b 12 0, H x0 = some ((prfH H a b).l[i]) ∧
    prfH (fun y => if y = x0 then some h else H y) a b = ⟨(prfH H a b).l.set i h, (prfH H a b).r, (prfH H a b).s⟩ := by
  obtain ⟨x0, h1, h2, h3⟩ := filterMap_set (f := fun x => if bLast x < a then H x else none) h (outL_nodup (a := a) (b := b) 12 0) (i := i) hi
  have hl : bLast x0 < a := by
    by_cases hl : bLast x0 < a
    · exact hl
    · simp only [if_neg hl] at h2; cases h2
  simp only [if_pos hl] at h2
  refine ⟨x0, h1, h2, ?_⟩
  unfold prfH
  congr 1
  · unfold leftH
    refine Eq.trans (filterMap_cg fun y hy => ?_) h3
    by_cases e : y = x0
    · simp [e, hl]
    · simp only [if_neg e]
  · unfold rightH
    refine filterMap_cg fun y hy => ?_
    by_cases e : y = x0
    · rw [e, if_pos hl, if_pos hl]
    · simp only [if_neg e]
  · unfold shapeH
    refine List.map_congr_left fun y hy => ?_
    by_cases e : y = x0
    · simp [e, h2]
    · simp only [if_neg e]
theorem prfH_right {H : HMap} {a b : Int} {i : Nat} (h : Nat) (hi : i < (prfH H a b).r.length) : ∃ x0 ∈ outL a b 12 0, H x0 = some ((prfH H a b).r[i]) ∧
    prfH (fun y => if y = x0 then some h else H y) a b = ⟨(prfH H a b).l, (prfH H a b).r.set i h, (prfH H a b).s⟩ := by
  obtain ⟨x0, h1, h2, h3⟩ := filterMap_set (f := fun x => if bLast x < a then none else H x) h (outL_nodup (a := a) (b := b) 12 0) (i := i) hi
  have hl : ¬ bLast x0 < a := by
    by_cases hl : bLast x0 < a
    · simp only [if_pos hl] at h2; cases h2
    · exact hl
  simp only [if_neg hl] at h2
  refine ⟨x0, h1, h2, ?_⟩
  unfold prfH
  congr 1
  · unfold leftH
    refine filterMap_cg fun y hy => ?_
    by_cases e : y = x0
    · rw [e, if_neg hl, if_neg hl]
    · simp only [if_neg e]
  · unfold rightH
    refine Eq.trans (filterMap_cg fun y hy => ?_) h3
    by_cases e : y = x0
    · simp [e, hl]
    · simp only [if_neg e]
  · unfold shapeH
    refine List.map_congr_left fun y hy => ?_
    by_cases e : y = x0
    · simp [e, h2]
    · simp only [if_neg e]
theorem diffO.getD {o o' : Option Nat} (h : diffO o o') : o'.getD 0 ≠ o.getD 0 := by
  obtain ⟨x, y, rfl, rfl, hne⟩ := h
  exact fun e => hne e.symm
theorem hbN_ltO (M : KVs) (x : Nat × Int) : ltO (hbN M x.1 x.2) := fun h e => hbN_lt M x.1 x.2 h e
/-- The list of a range is in order and within it. -/
theorem range_ok {M : KVs} {a b : Int} {ks : List Int} (hk : AKeys M ks) (hl : ∀ k v, M k = some v → v.length ≤ 65536) : AscP (pairsL M a b ks) ∧ wrongP a b (pairsL M a b ks) none = false := by
  have ha := pairsL_asc M a b ks hk.1
  refine ⟨ha, wrong_asc ha fun x hx => ?_⟩
  obtain ⟨h1, h2, h3⟩ := pairsL_mem hx
  refine ⟨h2, ?_, fun k e => by cases e⟩
  rw [h3]
  cases hm : M x.1 with
  | none => simp
  | some v => exact hl _ v hm
theorem range_lk {M : KVs} {a b : Int} {ks : List Int} (hk : AKeys M ks) (k : Int) (h1 : a ≤ k) (h2 : k ≤ b) : lkP (pairsL M a b ks) k = M k := by
  rw [lk_pairsL M a b ks hk.1]
  by_cases hm : k ∈ ks
  · rw [if_pos ⟨hm, h1, h2⟩]
    have := (hk.2 k).1 hm
    cases hx : M k with
    | none => rw [hx] at this; cases this
    | some v => rfl
  · rw [if_neg (fun h => hm h.1)]
    cases hx : M k with
    | none => rfl
    | some v => exact absurd ((hk.2 k).2 (by rw [hx]; rfl)) hm
theorem hR_root {M : KVs} {a b : Int} {ks : List Int} (hk : AKeys M ks) : (hR (fun x => hbN M x.1 x.2) (lkP (pairsL M a b ks)) a b 12 0).getD 0 = rootN M := by
  rw [hR_hb (fun k h1 h2 => range_lk hk k h1 h2)]
  rfl
/-- (Sound.) Another root is not accepted. -/
theorem check_root {M : KVs} {a b : Int} (hab : 0 ≤ a ∧ a ≤ b ∧ b ≤ 4095) {ks : List Int} (hk : AKeys M ks) (hl : ∀ k v, M k = some v → v.length ≤ 65536) (root : Nat) :
    checkP root a b (pairsL M a b ks) (rngP M a b) = if rootN M = root then 0 else 10 := by
  obtain ⟨ha, hw⟩ := range_ok (a := a) (b := b) hk hl
  rw [rngP_H, checkP_H hab _ _ ha hw, hR_root hk]
/-- (Sound.) A proof with one hash replaced by another one is not accepted. -/
theorem check_left {M : KVs} {a b : Int} (hab : 0 ≤ a ∧ a ≤ b ∧ b ≤ 4095) {ks : List Int} (hk : AKeys M ks) (hl : ∀ k v, M k = some v → v.length ≤ 65536) (i h : Nat) (hh : h < 18446744073709551616)
    (hne : (⟨(rngP M a b).l.set i h, (rngP M a b).r, (rngP M a b).s⟩ : Prf) ≠ rngP M a b) : checkP (rootN M) a b (pairsL M a b ks) ⟨(rngP M a b).l.set i h, (rngP M a b).r, (rngP M a b).s⟩ = 10 := by
  obtain ⟨ha, hw⟩ := range_ok (a := a) (b := b) hk hl
  by_cases hi : i < (rngP M a b).l.length
  · have hv : (rngP M a b).l[i] ≠ h := fun e => hne (by rw [← e, List.set_getElem_self])
    rw [rngP_H] at hi
    simp only [rngP_H] at hv ⊢
    obtain ⟨x0, h1, h2, h3⟩ := prfH_left h hi
    rw [← h3, checkP_H hab _ _ ha hw, if_neg]
    rw [← hR_root (a := a) (b := b) hk]
    have hd := (hR_diff (M := lkP (pairsL M a b ks)) (a := a) (b := b) (H := fun x => hbN M x.1 x.2) (H' := fun y => if y = x0 then some h else hbN M y.1 y.2) (x0 := x0) (hbN_ltO M) (fun x => by
      show ltO (if x = x0 then some h else hbN M x.1 x.2)
      split
      · intro z e; cases e; exact hh
      · exact hbN_ltO M x) ⟨_, h, h2, by simp, hv⟩ (fun x hx => by rw [if_neg hx]) 12 0).1 h1
    exact hd.getD
  · exact absurd (by rw [List.set_eq_of_length_le (by omega)]) hne
theorem check_right {M : KVs} {a b : Int} (hab : 0 ≤ a ∧ a ≤ b ∧ b ≤ 4095) {ks : List Int} (hk : AKeys M ks) (hl : ∀ k v, M k = some v → v.length ≤ 65536) (i h : Nat) (hh : h < 18446744073709551616)
    (hne : (⟨(rngP M a b).l, (rngP M a b).r.set i h, (rngP M a b).s⟩ : Prf) ≠ rngP M a b) : checkP (rootN M) a b (pairsL M a b ks) ⟨(rngP M a b).l, (rngP M a b).r.set i h, (rngP M a b).s⟩ = 10 := by
  obtain ⟨ha, hw⟩ := range_ok (a := a) (b := b) hk hl
  by_cases hi : i < (rngP M a b).r.length
  · have hv : (rngP M a b).r[i] ≠ h := fun e => hne (by rw [← e, List.set_getElem_self])
    rw [rngP_H] at hi
    simp only [rngP_H] at hv ⊢
    obtain ⟨x0, h1, h2, h3⟩ := prfH_right h hi
    rw [← h3, checkP_H hab _ _ ha hw, if_neg]
    rw [← hR_root (a := a) (b := b) hk]
    have hd := (hR_diff (M := lkP (pairsL M a b ks)) (a := a) (b := b) (H := fun x => hbN M x.1 x.2) (H' := fun y => if y = x0 then some h else hbN M y.1 y.2) (x0 := x0) (hbN_ltO M) (fun x => by
      show ltO (if x = x0 then some h else hbN M x.1 x.2)
      split
      · intro z e; cases e; exact hh
      · exact hbN_ltO M x) ⟨_, h, h2, by simp, hv⟩ (fun x hx => by rw [if_neg hx]) 12 0).1 h1
    exact hd.getD
  · exact absurd (by rw [List.set_eq_of_length_le (by omega)]) hne
/-! ### one byte of a value replaced -/
theorem leafN_val (k : Int) (v : List UInt8) : leafN k v = sumU pairL [u64N k, u64N (v.length : Int), bytesN valueL v] := by
  unfold leafN sumN
  rw [List.map_cons, List.map_cons, List.map_cons, List.map_nil, u64N_i64 (bytesN valueL v) (sumU_lt _ _)]
theorem leafN_set (k : Int) (v : List UInt8) (i : Nat) (c : UInt8) (hi : i < v.length) (hv : v.length < 18446744073709551616) (hne : v.set i c ≠ v) : leafN k (v.set i c) ≠ leafN k v := by
  intro h
  rw [leafN_val, leafN_val, List.length_set] at h
  have h1 := sumU_set pairL [u64N k, u64N (v.length : Int)] [] _ _ (fun z hz => by
    simp only [List.mem_cons, List.not_mem_nil, or_false] at hz
    rcases hz with rfl | rfl
    · exact u64N_lt _
    · exact u64N_lt _) (fun z hz => by cases hz) (sumU_lt _ _) (sumU_lt _ _) h
  refine bytesN_set valueL v i c hi hv (fun e => hne (by rw [e, List.set_getElem_self])) h1
theorem lkP_at : ∀ {ps : PrL}, AscP ps → ∀ {n : Nat} (hn : n < ps.length) (v : List UInt8), lkP (ps.set n (ps[n].1, v)) = fun j => if j = ps[n].1 then some v else lkP ps j
  | [], _, n, hn, v => by simp at hn
  | x :: ps, h, 0, hn, v => by
    funext j
    simp only [List.set_cons_zero, List.getElem_cons_zero, lkP]
    split <;> rfl
  | x :: ps, h, n + 1, hn, v => by
    funext j
    have hn' : n < ps.length := by simpa using hn
    have ih := congrFun (lkP_at h.cons.2 hn' v) j
    have hlt := h.cons.1 ps[n] (List.getElem_mem hn')
    simp only [List.set_cons_succ, List.getElem_cons_succ, lkP]
    rw [ih]
    by_cases e1 : j = x.1
    · rw [if_pos e1, if_neg (by omega), if_pos e1]
    · rw [if_neg e1, if_neg e1]
theorem asc_set {ps : PrL} (h : AscP ps) {n : Nat} (hn : n < ps.length) (v : List UInt8) : AscP (ps.set n (ps[n].1, v)) := by
  unfold AscP at *
  have e : (ps.set n (ps[n].1, v)).map (·.1) = ps.map (·.1) := by
    rw [List.map_set]
    have : (ps.map (·.1))[n]'(by simpa using hn) = ps[n].1 := by simp
    rw [← this, List.set_getElem_self]
  rw [e]
  exact h
/-- (Sound.) A value with one byte changed is accepted exactly if it is the same. -/
theorem check_value {M : KVs} {a b : Int} (hab : 0 ≤ a ∧ a ≤ b ∧ b ≤ 4095) {ks : List Int} (hk : AKeys M ks) (hl : ∀ k v, M k = some v → v.length ≤ 65536) {n : Nat} (hn : n < (pairsL M a b ks).length) {i : Nat} (hi : i < (pairsL M a b ks)[n].2.length) (c : UInt8) :
    checkP (rootN M) a b ((pairsL M a b ks).set n ((pairsL M a b ks)[n].1, (pairsL M a b ks)[n].2.set i c)) (rngP M a b) = if (pairsL M a b ks)[n].2.set i c = (pairsL M a b ks)[n].2 then 0 else 10 := by
  obtain ⟨ha, hw⟩ := range_ok (a := a) (b := b) hk hl
  have hmem := pairsL_mem (List.getElem_mem hn)
  have hval : lkP (pairsL M a b ks) (pairsL M a b ks)[n].1 = some (pairsL M a b ks)[n].2 := by
    rw [lk_pairsL M a b ks hk.1, if_pos ⟨hmem.1, hmem.2.1⟩, hmem.2.2]
  have hlen : (pairsL M a b ks)[n].2.length ≤ 65536 := by
    rw [hmem.2.2]
    cases hm : M (pairsL M a b ks)[n].1 with
    | none => simp
    | some v => exact hl _ v hm
  have hroot := hR_root (a := a) (b := b) hk
  obtain ⟨ps, hps⟩ : ∃ z, z = pairsL M a b ks := ⟨_, rfl⟩
  rw [← hps] at hroot ha hw
  have hall : ∀ (m : Nat) (hm : m < ps.length), (a ≤ ps[m].1 ∧ ps[m].1 ≤ b) ∧ ps[m].2.length ≤ 65536 := by
    subst hps
    intro m hm
    have h1 := pairsL_mem (List.getElem_mem hm)
    refine ⟨h1.2.1, ?_⟩
    rw [h1.2.2]
    cases hx : M (pairsL M a b ks)[m].1 with
    | none => simp
    | some v => exact hl _ v hx
  simp only [← hps] at hn hi hmem hval hlen ⊢
  have ha' := asc_set ha hn (ps[n].2.set i c)
  have hw' : wrongP a b (ps.set n (ps[n].1, ps[n].2.set i c)) none = false := wrong_asc ha' fun x hx => by
    refine ⟨?_, ?_, fun k e => by cases e⟩
    · rcases List.mem_or_eq_of_mem_set hx with hx | rfl
      · obtain ⟨m, hm, rfl⟩ := List.getElem_of_mem hx
        exact (hall m hm).1
      · exact hmem.2.1
    · rcases List.mem_or_eq_of_mem_set hx with hx | rfl
      · obtain ⟨m, hm, rfl⟩ := List.getElem_of_mem hx
        exact (hall m hm).2
      · simpa using hlen
  by_cases hs : ps[n].2.set i c = ps[n].2
  · rw [if_pos hs, hs, List.set_getElem_self, rngP_H, checkP_H hab _ _ ha hw, hroot, if_pos rfl]
  · rw [if_neg hs, rngP_H, checkP_H hab _ _ ha' hw', if_neg, ]
    rw [← hroot]
    have hd := (hR_diffM (H := fun x => hbN M x.1 x.2) (M := lkP ps) (M' := lkP (ps.set n (ps[n].1, ps[n].2.set i c))) (a := a) (b := b) (k := ps[n].1) (hbN_ltO M) hmem.2.1
      ⟨leafN ps[n].1 ps[n].2, leafN ps[n].1 (ps[n].2.set i c), by rw [hval]; rfl, by rw [lkP_at ha hn]; simp, fun e => leafN_set _ _ i c hi (by omega) hs e.symm⟩
      (fun j hj => by rw [lkP_at ha hn]; simp [hj]) 12 0).1 (by unfold inB; have := hmem.2.1; simp; omega)
    exact hd.getD
end Go.Proofs.YtcmjbjlliehdiaaDoor
/- Lending: what a call reads may still be owned by the caller. Plain Lean, no program in sight. -/
namespace PA
open Go Go.RowKit
/-- Nothing of w was changed: what held at w holds still. -/
theorem Sat.lend {W w w' : World} {A B : Assn} (h : Sat W w A) (hb : Sat w w' B) : Sat W w' A := by
  obtain ⟨h1, h2, h3, I, m, h4, h5, h6, h7⟩ := h
  obtain ⟨g1, g2, g3, I', m', g4, g5, g6, g7⟩ := hb
  exact ⟨g1.trans h1, g2.trans h2, g3.trans h3, I, m, h4, fun b o hb => g5 b o (g4 b o (h5 b o hb)), fun b o hb => ⟨g5 b o (g4 b o (h6 b o hb).1), (h6 b o hb).2⟩, h7⟩
theorem Sat.le_wm {W w : World} {A : Assn} {J : Mem} (h : Sat W w (sep (kn J) A)) : Mem.le J (wm w) := fun b o hb => h.ext b o hb
/-- An owned slice, as one that a callee may take for settled. -/
theorem Sat.lent_slice {α : Type} {R : Rep α} {E k : Nat} {W w : World} {A : Assn} {J : Mem} {a : Option Addr} {n c : Nat} {cells : List Value} {xs : List α} (h : Sat W w (sep (osl E k a n c cells) (sep (kn J) A))) (hr : (R.rows k).rel J cells xs) (hn : n = xs.length) :
    (R.slice k).rel (wm w) [.slice a n c] xs := by
  have h1 : Sat W w (sep (osl E k a n c cells) (sep ((R.rows k).is cells xs) (sep (kn J) A))) := (h.p1.tell hr).p2
  obtain ⟨J', hJ', hr', h2⟩ := (h1.slice_of_osl hn).learn
  exact (R.slice k).mono h2.le_wm hr'
end PA
/- authmap.Range and Check with pairs that the caller still owns. -/
namespace Go.Proofs.YtcmjbjlliehdiaaDoor
open Go.RowKit PA
attribute [local go_sem] Oper.semAt_some
theorem osl_setKs {W w : World} {A : Assn} {E k : Nat} {a : Option Addr} {n c : Nat} {xs : List Value} (h : Sat W w (sep (osl E k a n c xs) A)) (i : Nat) (hi : i < xs.length) (v : Value) :
    ∃ g, a = some ⟨g, 0, none⟩ ∧ w.cell? ⟨g, i, none⟩ = some xs[i] ∧ w.frozen? ⟨g, i, none⟩ = false ∧ Sat W (w.setCell ⟨g, i, none⟩ v) (sep (osl E k a n c (xs.set i v)) A) := by
  rcases h.osl_cases with ⟨rfl, rfl, rfl, rfl, _⟩ | ⟨g, cur, rfl, hlen, hnc, hcm, hcs, htake, hS⟩
  · simp at hi
  · have hle : n * k ≤ c * k := Nat.mul_le_mul_right k hnc
    have hkc : i < cur.size := by omega
    refine ⟨g, rfl, ?_, hS.unfrozen i, ?_⟩
    · rw [hS.cell i, Array.getElem?_eq_getElem hkc]
      congr 1
      have : (cur.toList.take (n * k))[i]? = xs[i]? := by rw [htake]
      rw [List.getElem?_take, if_pos (by omega), List.getElem?_eq_getElem hi] at this
      simpa [hkc] using this
    · refine (hS.setCell i v).osl_mk n c k (xs.set i v) (by simp [hlen]) hnc hcm (by simp [hcs]) ?_
      rw [Array.toList_setIfInBounds, List.take_set, htake]
theorem rows2_set {J : Mem} : ∀ {css : List (List Value)} {PL : PrL}, All2 (fun c x => rPairQ.rel J c x ∧ c.length = 2) css PL → ∀ {i : Nat} (hi : i < PL.length) (va : Option Addr) (vc : Nat) (v : List UInt8), rBytes.rel J [.slice va v.length vc] v →
    (∃ ua uc, css.flatten[i * 2]? = some (.int .i64 PL[i].1) ∧ css.flatten[i * 2 + 1]? = some (.slice ua PL[i].2.length uc) ∧ rBytes.rel J [.slice ua PL[i].2.length uc] PL[i].2) ∧
    ∃ css', css.flatten.set (i * 2 + 1) (.slice va v.length vc) = css'.flatten ∧ All2 (fun c x => rPairQ.rel J c x ∧ c.length = 2) css' (PL.set i (PL[i].1, v))
  | [], [], _, i, hi, _, _, _, _ => by simp at hi
  | [], _ :: _, h, _, _, _, _, _, _ => h.elim
  | _ :: _, [], h, _, _, _, _, _, _ => h.elim
  | cc :: css, x :: PL, h, i, hi, va, vc, v, hv => by
    obtain ⟨⟨⟨a, c, rfl, hr⟩, _⟩, ht⟩ := h
    cases i with
    | zero =>
      refine ⟨⟨a, c, rfl, rfl, hr⟩, [.int .i64 x.1, .slice va v.length vc] :: css, rfl, ⟨⟨va, vc, rfl, hv⟩, rfl⟩, ht⟩
    | succ i =>
      have hi' : i < PL.length := by simpa using hi
      obtain ⟨⟨ua, uc, e1, e2, e3⟩, css', e4, e5⟩ := rows2_set ht hi' va vc v hv
      refine ⟨⟨ua, uc, ?_, ?_, e3⟩, [.int .i64 x.1, .slice a x.2.length c] :: css', ?_, ⟨⟨a, c, rfl, hr⟩, rfl⟩, e5⟩
      · rw [show (i + 1) * 2 = i * 2 + 1 + 1 by omega]
        exact e1
      · rw [show (i + 1) * 2 + 1 = i * 2 + 1 + 1 + 1 by omega]
        exact e2
      · rw [show (i + 1) * 2 + 1 = i * 2 + 1 + 1 + 1 by omega]
        simp only [List.flatten_cons, List.cons_append, List.nil_append, List.set_cons_succ]
        rw [e4]
theorem rows_setQ {J : Mem} {cells : List Value} {PL : PrL} (h : (rPairQ.rows 2).rel J cells PL) {i : Nat} (hi : i < PL.length) (va : Option Addr) (vc : Nat) (v : List UInt8) (hv : rBytes.rel J [.slice va v.length vc] v) :
    (∃ ua uc, cells[i * 2]? = some (.int .i64 PL[i].1) ∧ cells[i * 2 + 1]? = some (.slice ua PL[i].2.length uc) ∧ rBytes.rel J [.slice ua PL[i].2.length uc] PL[i].2) ∧ (rPairQ.rows 2).rel J (cells.set (i * 2 + 1) (.slice va v.length vc)) (PL.set i (PL[i].1, v)) := by
  obtain ⟨css, rfl, h2⟩ := h
  obtain ⟨h3, css', e4, e5⟩ := rows2_set h2 hi va vc v hv
  exact ⟨h3, css', e4, e5⟩
theorem arange_own {W w : World} {A : Assn} {I : Mem} (hw : WholeOK W) (p : Nat) (M : KVs) (a b : Int) (h : Sat W w (sep (isAM p M) (sep (kn I) A))) (hn : 0 ≤ a ∧ a ≤ b ∧ b ≤ 4095) :
    Calls Tryd.prog 17 #[.pointer (some ⟨p, 0, none⟩), .int .i64 a, .int .i64 b] w fun e w' => ∃ pa n pc cells ks la nl lc ra nr rc sa ns sc J, AKeys M ks ∧ Mem.le I J ∧
      e = .returned (.tuple #[.slice pa n pc, .agg #[.slice la nl lc, .slice ra nr rc, .slice sa ns sc], .int .i64 0]) ∧ n = (pairsL M a b ks).length ∧
      (rPairQ.rows 2).rel J cells (pairsL M a b ks) ∧ prfR J (.agg #[.slice la nl lc, .slice ra nr rc, .slice sa ns sc]) (rngP M a b) ∧ Sat W w' (sep (osl 84 2 pa n pc cells) (sep (kn J) (sep (isAM p M) A))) := by
  refine (arange_ok hw p M a b h hn).mono ?_
  rintro e w' ⟨pa, pc, cells, ks, la, lc, ra, rc, sa, sc, J, hk, hJ, rfl, h1⟩
  obtain ⟨J1, hJ1, hr1, h3⟩ := (show Sat W w' (sep ((rPairQ.rows 2).is cells (pairsL M a b ks)) (sep (kn J) _)) from h1.p1.p5.p1).learn
  obtain ⟨J2, hJ2, hr2, h4⟩ := hs_learn (show Sat W w' (sep (osl 43 1 la (leftL M a (outL a b 12 0)).length lc ((leftL M a (outL a b 12 0)).map uv)) (sep (kn J1) (sep (osl 84 2 pa (pairsL M a b ks).length pc cells) (sep (osl 43 1 ra (rightL M a (outL a b 12 0)).length rc ((rightL M a (outL a b 12 0)).map uv)) (sep (osl 5 1 sa (shapeL M (outL a b 12 0)).length sc ((shapeL M (outL a b 12 0)).map bv)) (sep (isAM p M) A)))))) by simpa only [sep_comm, sep_lcomm, sep_assoc] using h3) rfl
  obtain ⟨J3, hJ3, hr3, h5⟩ := hs_learn (show Sat W w' (sep (osl 43 1 ra (rightL M a (outL a b 12 0)).length rc ((rightL M a (outL a b 12 0)).map uv)) (sep (kn J2) (sep (osl 84 2 pa (pairsL M a b ks).length pc cells) (sep (osl 5 1 sa (shapeL M (outL a b 12 0)).length sc ((shapeL M (outL a b 12 0)).map bv)) (sep (isAM p M) A))))) by simpa only [sep_comm, sep_lcomm, sep_assoc] using h4) rfl
  obtain ⟨J4, hJ4, hr4, h6⟩ := osl_learnQ (show Sat W w' (sep (osl 5 1 sa (shapeL M (outL a b 12 0)).length sc ((shapeL M (outL a b 12 0)).map bv)) (sep (kn J3) (sep (osl 84 2 pa (pairsL M a b ks).length pc cells) (sep (isAM p M) A)))) by simpa only [sep_comm, sep_lcomm, sep_assoc] using h5) rfl
  exact ⟨pa, _, pc, cells, ks, la, _, lc, ra, _, rc, sa, _, sc, J4, hk, Mem.le_trans hJ (Mem.le_trans hJ1 (Mem.le_trans hJ2 (Mem.le_trans hJ3 hJ4))), rfl, rfl, (rPairQ.rows 2).mono (Mem.le_trans hJ2 (Mem.le_trans hJ3 hJ4)) hr1,
    ⟨_, _, _, rfl, rHs.mono (Mem.le_trans hJ3 hJ4) hr2, rHs.mono hJ4 hr3, hr4⟩, h6.p1⟩
theorem acheck_own {W w : World} {A : Assn} {J : Mem} (hw : WholeOK W) (root : Nat) (a b : Int) (pa : Option Addr) (pn pc : Nat) (cells : List Value) (ps : PrL) (vp : Value) (p : Prf) (h : Sat W w (sep (osl 84 2 pa pn pc cells) (sep (kn J) A)))
    (hv : (rPairQ.rows 2).rel J cells ps) (hpn : pn = ps.length) (hps : ps.length ≤ 1000000) (hvp : prfR J vp p) (hp : PrfOK p) :
    Calls Tryd.prog 39 #[.int .u64 (root : Nat), .int .i64 a, .int .i64 b, .slice pa pn pc, vp] w fun e w' => e = .returned (.int .i64 (checkP root a b ps p)) ∧ Sat W w' (sep (osl 84 2 pa pn pc cells) (sep (kn J) A)) := by
  refine (acheck_spec (WholeOK.now hw h) root a b pa pn pc ps vp p (Sat.startKn w) (h.lent_slice hv hpn) hps (prfR.mono h.p1.le_wm hvp) hp).mono ?_
  rintro e w' ⟨rfl, h2⟩
  exact ⟨rfl, h.lend h2⟩
end Go.Proofs.YtcmjbjlliehdiaaDoor
