/- What a change of a hash, of a value or of the pairs within a range does to the root that Check finds: plain. -/
import Derived.Test.YtcmjbjlliehdiaaDoorGAuthmapChecks24
import Derived.Test.YtcmjbjlliehdiaaDoorGAuthmapChecksSDt
namespace Go.Proofs.YtcmjbjlliehdiaaDoor
open Go Go.RowKit PA
theorem filterMap_cg {X Y : Type} {f g : X → Option Y} : ∀ {l : List X}, (∀ x ∈ l, f x = g x) → l.filterMap f = l.filterMap g
  | [], _ => rfl
  | x :: l, h => by
    rw [List.filterMap_cons, List.filterMap_cons, h x (by simp), filterMap_cg (l := l) fun y hy => h y (by simp [hy])]
/-! ### changes within the range leave the proof as it is -/
theorem hb_out {M M' : KVs} {a b : Int} (h : ∀ k, k < a ∨ b < k → M k = M' k) {x : Nat × Int} (hx : isOut a b x) : hbN M x.1 x.2 = hbN M' x.1 x.2 :=
  hbN_same x.1 x.2 fun k hk => h k (by unfold isOut bLast bFirst at hx; unfold inB at hk; omega)
theorem rngP_same {M M' : KVs} {a b : Int} (h : ∀ k, k < a ∨ b < k → M k = M' k) : rngP M a b = rngP M' a b := by
  rw [rngP_H, rngP_H]
  have key : ∀ x ∈ outL a b 12 0, hbN M x.1 x.2 = hbN M' x.1 x.2 := fun x hx => hb_out h (outL_isOut 12 0 x hx)
  unfold prfH
  congr 1
  · unfold leftH
    exact filterMap_cg fun x hx => by dsimp only; rw [key x hx]
  · unfold rightH
    exact filterMap_cg fun x hx => by dsimp only; rw [key x hx]
  · unfold shapeH
    exact List.map_congr_left fun x hx => by simp only [key x hx]
/-! ### the hash of two halves -/
theorem nodeN_val (a b : Nat) (ha : a < 18446744073709551616) (hb : b < 18446744073709551616) : nodeN a b = sumU blockL [a, b] := by
  unfold nodeN sumN
  rw [List.map_cons, List.map_cons, List.map_nil, u64N_i64 a ha, u64N_i64 b hb]
theorem nodeN_left {a b c : Nat} (ha : a < 18446744073709551616) (hb : b < 18446744073709551616) (hc : c < 18446744073709551616) (h : nodeN a c = nodeN b c) : a = b := by
  rw [nodeN_val a c ha hc, nodeN_val b c hb hc] at h
  exact sumU_set blockL [] [c] a b (fun z hz => by cases hz) (fun z hz => by rw [List.mem_singleton.1 hz]; exact hc) ha hb h
theorem nodeN_right {a b c : Nat} (ha : a < 18446744073709551616) (hb : b < 18446744073709551616) (hc : c < 18446744073709551616) (h : nodeN c a = nodeN c b) : a = b := by
  rw [nodeN_val c a hc ha, nodeN_val c b hc hb] at h
  exact sumU_set blockL [c] [] a b (fun z hz => by rw [List.mem_singleton.1 hz]; exact hc) (fun z hz => by cases hz) ha hb h
def ltO (o : Option Nat) : Prop := ∀ h, o = some h → h < 18446744073709551616
theorem ltO.getD {o : Option Nat} (h : ltO o) : o.getD 0 < 18446744073709551616 := by
  cases o with
  | none => decide
  | some x => exact h x rfl
def diffO (o o' : Option Nat) : Prop := ∃ h h', o = some h ∧ o' = some h' ∧ h ≠ h'
theorem joinN_dl {o o' u : Option Nat} (h : diffO o o') (l1 : ltO o) (l2 : ltO o') (l3 : ltO u) : diffO (joinN o u) (joinN o' u) := by
  obtain ⟨x, y, rfl, rfl, hne⟩ := h
  have h1 := l1 x rfl
  have h2 := l2 y rfl
  have h3 := l3.getD
  refine ⟨nodeN x (u.getD 0), nodeN y (u.getD 0), ?_, ?_, fun e => hne (nodeN_left h1 h2 h3 e)⟩
  · cases u <;> rfl
  · cases u <;> rfl
theorem joinN_dr {o o' u : Option Nat} (h : diffO o o') (l1 : ltO o) (l2 : ltO o') (l3 : ltO u) : diffO (joinN u o) (joinN u o') := by
  obtain ⟨x, y, rfl, rfl, hne⟩ := h
  have h1 := l1 x rfl
  have h2 := l2 y rfl
  have h3 := l3.getD
  refine ⟨nodeN (u.getD 0) x, nodeN (u.getD 0) y, ?_, ?_, fun e => hne (nodeN_right h1 h2 h3 e)⟩
  · cases u <;> rfl
  · cases u <;> rfl
theorem hR_lt {H : HMap} {M : KVs} {a b : Int} (hH : ∀ x, ltO (H x)) : ∀ (l : Nat) (n : Int), ltO (hR H M a b l n)
  | 0, n => by
    rw [hR]
    split
    · exact hH _
    · intro h e
      obtain ⟨v, -, rfl⟩ := Option.map_eq_some_iff.1 e
      exact leafN_lt _ _
  | l + 1, n => by
    rw [hR]
    split
    · exact hH _
    · intro h e
      exact joinN_lt _ _ h e
/-! ### where the blocks of the outside lie -/
theorem outL_in_block {a b : Int} : ∀ (l : Nat) (n : Int) (x : Nat × Int), x ∈ outL a b l n → bFirst (l, n) ≤ bFirst x ∧ bLast x ≤ bLast (l, n) ∧ bFirst x ≤ bLast x
  | 0, n, x, h => by
    rw [outL] at h
    split at h
    · rw [List.mem_singleton.1 h]
      have := first_le_last 0 n
      omega
    · cases h
  | l + 1, n, x, h => by
    rw [outL] at h
    split at h
    · rw [List.mem_singleton.1 h]
      have := first_le_last (l + 1) n
      omega
    · split at h
      · cases h
      · obtain ⟨h1, h2, h3, h4, h5⟩ := half_bounds l n
        rcases List.mem_append.1 h with h | h
        · have := outL_in_block l _ x h
          omega
        · have := outL_in_block l _ x h
          omega
theorem outL_disj {a b : Int} {l : Nat} {n : Int} {x : Nat × Int} (h : x ∈ outL a b l (2 * n)) (h' : x ∈ outL a b l (2 * n + 1)) : False := by
  obtain ⟨h1, h2, h3, h4, h5⟩ := half_bounds l n
  have := outL_in_block l _ x h
  have := outL_in_block l _ x h'
  omega
theorem outL_nodup {a b : Int} : ∀ (l : Nat) (n : Int), (outL a b l n).Nodup
  | 0, n => by
    rw [outL]
    split
    · simp
    · simp
  | l + 1, n => by
    rw [outL]
    split
    · simp
    · split
      · simp
      · rw [List.nodup_append]
        refine ⟨outL_nodup l _, outL_nodup l _, fun x hx y hy e => ?_⟩
        subst e
        exact outL_disj hx hy
/-- One other hash outside: another root. -/
theorem hR_diff {H H' : HMap} {M : KVs} {a b : Int} {x0 : Nat × Int} (hH : ∀ x, ltO (H x)) (hH' : ∀ x, ltO (H' x)) (hd : diffO (H x0) (H' x0)) (he : ∀ x, x ≠ x0 → H x = H' x) :
    ∀ (l : Nat) (n : Int), (x0 ∈ outL a b l n → diffO (hR H M a b l n) (hR H' M a b l n)) ∧ (x0 ∉ outL a b l n → hR H M a b l n = hR H' M a b l n)
  | 0, n => by
    rw [hR, hR]
    by_cases ho : isOut a b (0, n)
    · rw [if_pos ho, if_pos ho, outL_out ho]
      refine ⟨fun h => ?_, fun h => ?_⟩
      · rw [← List.mem_singleton.1 h]; exact hd
      · exact he _ fun e => h (by rw [e]; simp)
    · rw [if_neg ho, if_neg ho]
      refine ⟨fun h => ?_, fun h => rfl⟩
      have ho' : ¬ (bLast (0, n) < a ∨ b < bFirst (0, n)) := ho
      rw [outL, if_neg ho'] at h
      cases h
  | l + 1, n => by
    rw [hR, hR]
    by_cases ho : isOut a b (l + 1, n)
    · rw [if_pos ho, if_pos ho, outL_out ho]
      refine ⟨fun h => ?_, fun h => ?_⟩
      · rw [← List.mem_singleton.1 h]; exact hd
      · exact he _ fun e => h (by rw [e]; simp)
    · rw [if_neg ho, if_neg ho]
      obtain ⟨p1, p2⟩ := hR_diff (M := M) (a := a) (b := b) hH hH' hd he l (2 * n)
      obtain ⟨q1, q2⟩ := hR_diff (M := M) (a := a) (b := b) hH hH' hd he l (2 * n + 1)
      have m1 := hR_lt (M := M) (a := a) (b := b) hH l (2 * n)
      have m2 := hR_lt (M := M) (a := a) (b := b) hH' l (2 * n)
      have m3 := hR_lt (M := M) (a := a) (b := b) hH l (2 * n + 1)
      have m4 := hR_lt (M := M) (a := a) (b := b) hH' l (2 * n + 1)
      by_cases hi : a ≤ bFirst (l + 1, n) ∧ bLast (l + 1, n) ≤ b
      · obtain ⟨h1, h2, h3, h4, h5⟩ := half_bounds l n
        rw [outL_inside hi]
        have e1 : x0 ∉ outL a b l (2 * n) := by rw [outL_inside (by omega)]; simp
        have e2 : x0 ∉ outL a b l (2 * n + 1) := by rw [outL_inside (by omega)]; simp
        exact ⟨fun h => (by cases h), fun _ => by rw [p2 e1, q2 e2]⟩
      · rw [outL_halves ho hi]
        refine ⟨fun h => ?_, fun h => ?_⟩
        · rcases List.mem_append.1 h with h | h
          · rw [← q2 (fun h' => outL_disj h h')]
            exact joinN_dl (p1 h) m1 m2 m3
          · rw [← p2 (fun h' => outL_disj h' h)]
            exact joinN_dr (q1 h) m3 m4 m1
        · rw [p2 (fun h' => h (List.mem_append_left _ h')), q2 (fun h' => h (List.mem_append_right _ h'))]
/-- Another value of one key within the range: another root. -/
theorem hR_diffM {H : HMap} {M M' : KVs} {a b k : Int} (hH : ∀ x, ltO (H x)) (hk : a ≤ k ∧ k ≤ b) (hd : diffO ((M k).map (leafN k)) ((M' k).map (leafN k))) (he : ∀ j, j ≠ k → M j = M' j) :
    ∀ (l : Nat) (n : Int), (inB l n k → diffO (hR H M a b l n) (hR H M' a b l n)) ∧ (¬ inB l n k → hR H M a b l n = hR H M' a b l n)
  | 0, n => by
    rw [hR, hR]
    by_cases ho : isOut a b (0, n)
    · rw [if_pos ho, if_pos ho]
      refine ⟨fun h => ?_, fun _ => rfl⟩
      rw [inB_zero] at h
      unfold isOut bLast bFirst at ho
      simp at ho
      omega
    · rw [if_neg ho, if_neg ho, inB_zero]
      refine ⟨fun h => ?_, fun h => ?_⟩
      · rw [← h]; exact hd
      · rw [he n (fun e => h e.symm)]
  | l + 1, n => by
    rw [hR, hR]
    by_cases ho : isOut a b (l + 1, n)
    · rw [if_pos ho, if_pos ho]
      refine ⟨fun h => ?_, fun _ => rfl⟩
      unfold inB at h
      unfold isOut bLast bFirst at ho
      dsimp only at ho
      omega
    · rw [if_neg ho, if_neg ho]
      obtain ⟨p1, p2⟩ := hR_diffM (H := H) (a := a) (b := b) hH hk hd he l (2 * n)
      obtain ⟨q1, q2⟩ := hR_diffM (H := H) (a := a) (b := b) hH hk hd he l (2 * n + 1)
      have m1 := hR_lt (M := M) (a := a) (b := b) hH l (2 * n)
      have m2 := hR_lt (M := M') (a := a) (b := b) hH l (2 * n)
      have m3 := hR_lt (M := M) (a := a) (b := b) hH l (2 * n + 1)
      have m4 := hR_lt (M := M') (a := a) (b := b) hH l (2 * n + 1)
      rw [inB_succ]
      refine ⟨fun h => ?_, fun h => ?_⟩
      · rcases h with h | h
        · rw [← q2 (fun h' => by have := inB_uniq h h'; omega)]
          exact joinN_dl (p1 h) m1 m2 m3
        · rw [← p2 (fun h' => by have := inB_uniq h h'; omega)]
          exact joinN_dr (q1 h) m3 m4 m1
      · rw [p2 (fun h' => h (.inl h')), q2 (fun h' => h (.inr h'))]
/-! ### one hash of a proof replaced -/
theorem filterMap_set {X : Type} [DecidableEq X] {f : X → Option Nat} (h : Nat) : ∀ {xs : List X}, xs.Nodup → ∀ {i : Nat} (hi : i < (xs.filterMap f).length),
    ∃ x0 ∈ xs, f x0 = some ((xs.filterMap f)[i]) ∧ xs.filterMap (fun y => if y = x0 then some h else f y) = (xs.filterMap f).set i h
  | [], _, i, hi => by simp at hi
  | x :: xs, hn, i, hi => by
    obtain ⟨hx, hn'⟩ := List.nodup_cons.1 hn
    cases hf : f x with
    | none =>
      have e : (x :: xs).filterMap f = xs.filterMap f := by simp [hf]
      obtain ⟨x0, h1, h2, h3⟩ := filterMap_set (f := f) h hn' (i := i) (by rw [e] at hi; exact hi)
      have hne : x ≠ x0 := fun e => hx (by rw [e]; exact h1)
      refine ⟨x0, by simp [h1], by simp only [e]; exact h2, ?_⟩
      rw [e, ← h3]
      simp [hne, hf]
    | some v =>
      have e : (x :: xs).filterMap f = v :: xs.filterMap f := by simp [hf]
      cases i with
      | zero =>
        refine ⟨x, by simp, by simp only [e, hf]; rfl, ?_⟩
        rw [e]
        have : xs.filterMap (fun y => if y = x then some h else f y) = xs.filterMap f := filterMap_cg fun y hy => by rw [if_neg (fun e => hx (by rw [← e]; exact hy))]
        simp [this]
      | succ i =>
        obtain ⟨x0, h1, h2, h3⟩ := filterMap_set (f := f) h hn' (i := i) (by rw [e] at hi; simpa using hi)
        have hne : x ≠ x0 := fun e => hx (by rw [e]; exact h1)
        refine ⟨x0, by simp [h1], by simp only [e]; simpa using h2, ?_⟩
        rw [e]
        simp [hne, hf, h3]
theorem prfH_left {H : HMap} {a b : Int} {i : Nat} (h : Nat) (hi : i < (prfH H a b).l.length) : ∃ x0 ∈ outL a b 12 0, H x0 = some ((prfH H a b).l[i]) ∧
    prfH (fun y => if y = x0 then some h else H y) a b = ⟨(prfH H a b).l.set i h, (prfH H a b).r, (prfH H a b).s⟩ := by
  obtain ⟨x0, h1, h2, h3⟩ := filterMap_set (f := fun x => if bLast x < a then H x else none) h (outL_nodup (a := a) (b := b) 12 0) (i := i) hi
  have hl : bLast x0 < a := by
    by_cases hl : bLast x0 < a
    · exact hl
    · simp only [if_neg hl] at h2; cases h2
  simp only [if_pos hl] at h2
  refine ⟨x0, h1, h2, ?_⟩
  unfold prfH
  congr 1
  · unfold leftH
    refine Eq.trans (filterMap_cg fun y hy => ?_) h3
    by_cases e : y = x0
    · simp [e, hl]
    · simp only [if_neg e]
  · unfold rightH
    refine filterMap_cg fun y hy => ?_
    by_cases e : y = x0
    · rw [e, if_pos hl, if_pos hl]
    · simp only [if_neg e]
  · unfold shapeH
    refine List.map_congr_left fun y hy => ?_
    by_cases e : y = x0
    · simp [e, h2]
    · simp only [if_neg e]
theorem prfH_right {H : HMap} {a b : Int} {i : Nat} (h : Nat) (hi : i < (prfH H a b).r.length) : ∃ x0 ∈ outL a b 12 0, H x0 = some ((prfH H a b).r[i]) ∧
    prfH (fun y => if y = x0 then some h else H y) a b = ⟨(prfH H a b).l, (prfH H a b).r.set i h, (prfH H a b).s⟩ := by
  obtain ⟨x0, h1, h2, h3⟩ := filterMap_set (f := fun x => if bLast x < a then none else H x) h (outL_nodup (a := a) (b := b) 12 0) (i := i) hi
  have hl : ¬ bLast x0 < a := by
    by_cases hl : bLast x0 < a
    · simp only [if_pos hl] at h2; cases h2
    · exact hl
  simp only [if_neg hl] at h2
  refine ⟨x0, h1, h2, ?_⟩
  unfold prfH
  congr 1
  · unfold leftH
    refine filterMap_cg fun y hy => ?_
    by_cases e : y = x0
    · rw [e, if_neg hl, if_neg hl]
    · simp only [if_neg e]
  · unfold rightH
    refine Eq.trans (filterMap_cg fun y hy => ?_) h3
    by_cases e : y = x0
    · simp [e, hl]
    · simp only [if_neg e]
  · unfold shapeH
    refine List.map_congr_left fun y hy => ?_
    by_cases e : y = x0
    · simp [e, h2]
    · simp only [if_neg e]
theorem diffO.getD {o o' : Option Nat} (h : diffO o o') : o'.getD 0 ≠ o.getD 0 := by
  obtain ⟨x, y, rfl, rfl, hne⟩ := h
  exact fun e => hne e.symm
theorem hbN_ltO (M : KVs) (x : Nat × Int) : ltO (hbN M x.1 x.2) := fun h e => hbN_lt M x.1 x.2 h e
/-- The list of a range is in order and within it. -/
theorem range_ok {M : KVs} {a b : Int} {ks : List Int} (hk : AKeys M ks) (hl : ∀ k v, M k = some v → v.length ≤ 65536) : AscP (pairsL M a b ks) ∧ wrongP a b (pairsL M a b ks) none = false := by
  have ha := pairsL_asc M a b ks hk.1
  refine ⟨ha, wrong_asc ha fun x hx => ?_⟩
  obtain ⟨h1, h2, h3⟩ := pairsL_mem hx
  refine ⟨h2, ?_, fun k e => by cases e⟩
  rw [h3]
  cases hm : M x.1 with
  | none => simp
  | some v => exact hl _ v hm
theorem range_lk {M : KVs} {a b : Int} {ks : List Int} (hk : AKeys M ks) (k : Int) (h1 : a ≤ k) (h2 : k ≤ b) : lkP (pairsL M a b ks) k = M k := by
  rw [lk_pairsL M a b ks hk.1]
  by_cases hm : k ∈ ks
  · rw [if_pos ⟨hm, h1, h2⟩]
    have := (hk.2 k).1 hm
    cases hx : M k with
    | none => rw [hx] at this; cases this
    | some v => rfl
  · rw [if_neg (fun h => hm h.1)]
    cases hx : M k with
    | none => rfl
    | some v => exact absurd ((hk.2 k).2 (by rw [hx]; rfl)) hm
theorem hR_root {M : KVs} {a b : Int} {ks : List Int} (hk : AKeys M ks) : (hR (fun x => hbN M x.1 x.2) (lkP (pairsL M a b ks)) a b 12 0).getD 0 = rootN M := by
  rw [hR_hb (fun k h1 h2 => range_lk hk k h1 h2)]
  rfl
/-- (Sound.) Another root is not accepted. -/
theorem check_root {M : KVs} {a b : Int} (hab : 0 ≤ a ∧ a ≤ b ∧ b ≤ 4095) {ks : List Int} (hk : AKeys M ks) (hl : ∀ k v, M k = some v → v.length ≤ 65536) (root : Nat) :
    checkP root a b (pairsL M a b ks) (rngP M a b) = if rootN M = root then 0 else 10 := by
  obtain ⟨ha, hw⟩ := range_ok (a := a) (b := b) hk hl
  rw [rngP_H, checkP_H hab _ _ ha hw, hR_root hk]
/-- (Sound.) A proof with one hash replaced by another one is not accepted. -/
theorem check_left {M : KVs} {a b : Int} (hab : 0 ≤ a ∧ a ≤ b ∧ b ≤ 4095) {ks : List Int} (hk : AKeys M ks) (hl : ∀ k v, M k = some v → v.length ≤ 65536) (i h : Nat) (hh : h < 18446744073709551616)
    (hne : (⟨(rngP M a b).l.set i h, (rngP M a b).r, (rngP M a b).s⟩ : Prf) ≠ rngP M a b) : checkP (rootN M) a b (pairsL M a b ks) ⟨(rngP M a b).l.set i h, (rngP M a b).r, (rngP M a b).s⟩ = 10 := by
  obtain ⟨ha, hw⟩ := range_ok (a := a) (b := b) hk hl
  by_cases hi : i < (rngP M a b).l.length
  · have hv : (rngP M a b).l[i] ≠ h := fun e => hne (by rw [← e, List.set_getElem_self])
    rw [rngP_H] at hi
    simp only [rngP_H] at hv ⊢
    obtain ⟨x0, h1, h2, h3⟩ := prfH_left h hi
    rw [← h3, checkP_H hab _ _ ha hw, if_neg]
    rw [← hR_root (a := a) (b := b) hk]
    have hd := (hR_diff (M := lkP (pairsL M a b ks)) (a := a) (b := b) (H := fun x => hbN M x.1 x.2) (H' := fun y => if y = x0 then some h else hbN M y.1 y.2) (x0 := x0) (hbN_ltO M) (fun x => by
      show ltO (if x = x0 then some h else hbN M x.1 x.2)
      split
      · intro z e; cases e; exact hh
      · exact hbN_ltO M x) ⟨_, h, h2, by simp, hv⟩ (fun x hx => by rw [if_neg hx]) 12 0).1 h1
    exact hd.getD
  · exact absurd (by rw [List.set_eq_of_length_le (by omega)]) hne
theorem check_right {M : KVs} {a b : Int} (hab : 0 ≤ a ∧ a ≤ b ∧ b ≤ 4095) {ks : List Int} (hk : AKeys M ks) (hl : ∀ k v, M k = some v → v.length ≤ 65536) (i h : Nat) (hh : h < 18446744073709551616)
    (hne : (⟨(rngP M a b).l, (rngP M a b).r.set i h, (rngP M a b).s⟩ : Prf) ≠ rngP M a b) : checkP (rootN M) a b (pairsL M a b ks) ⟨(rngP M a b).l, (rngP M a b).r.set i h, (rngP M a b).s⟩ = 10 := by
  obtain ⟨ha, hw⟩ := range_ok (a := a) (b := b) hk hl
  by_cases hi : i < (rngP M a b).r.length
  · have hv : (rngP M a b).r[i] ≠ h := fun e => hne (by rw [← e, List.set_getElem_self])
    rw [rngP_H] at hi
    simp only [rngP_H] at hv ⊢
    obtain ⟨x0, h1, h2, h3⟩ := prfH_right h hi
    rw [← h3, checkP_H hab _ _ ha hw, if_neg]
    rw [← hR_root (a := a) (b := b) hk]
    have hd := (hR_diff (M := lkP (pairsL M a b ks)) (a := a) (b := b) (H := fun x => hbN M x.1 x.2) (H' := fun y => if y = x0 then some h else hbN M y.1 y.2) (x0 := x0) (hbN_ltO M) (fun x => by
      show ltO (if x = x0 then some h else hbN M x.1 x.2)
      split
      · intro z e; cases e; exact hh
      · exact hbN_ltO M x) ⟨_, h, h2, by simp, hv⟩ (fun x hx => by rw [if_neg hx]) 12 0).1 h1
    exact hd.getD
  · exact absurd (by rw [List.set_eq_of_length_le (by omega)]) hne
/-! ### one byte of a value replaced -/
theorem leafN_val (k : Int) (v : List UInt8) : leafN k v = sumU pairL [u64N k, u64N (v.length : Int), bytesN valueL v] := by
  unfold leafN sumN
  rw [List.map_cons, List.map_cons, List.map_cons, List.map_nil, u64N_i64 (bytesN valueL v) (sumU_lt _ _)]
theorem leafN_set (k : Int) (v : List UInt8) (i : Nat) (c : UInt8) (hi : i < v.length) (hv : v.length < 18446744073709551616) (hne : v.set i c ≠ v) : leafN k (v.set i c) ≠ leafN k v := by
  intro h
  rw [leafN_val, leafN_val, List.length_set] at h
  have h1 := sumU_set pairL [u64N k, u64N (v.length : Int)] [] _ _ (fun z hz => by
    simp only [List.mem_cons, List.not_mem_nil, or_false] at hz
    rcases hz with rfl | rfl
    · exact u64N_lt _
    · exact u64N_lt _) (fun z hz => by cases hz) (sumU_lt _ _) (sumU_lt _ _) h
  refine bytesN_set valueL v i c hi hv (fun e => hne (by rw [e, List.set_getElem_self])) h1
theorem lkP_at : ∀ {ps : PrL}, AscP ps → ∀ {n : Nat} (hn : n < ps.length) (v : List UInt8), lkP (ps.set n (ps[n].1, v)) = fun j => if j = ps[n].1 then some v else lkP ps j
  | [], _, n, hn, v => by simp at hn
  | x :: ps, h, 0, hn, v => by
    funext j
    simp only [List.set_cons_zero, List.getElem_cons_zero, lkP]
    split <;> rfl
  | x :: ps, h, n + 1, hn, v => by
    funext j
    have hn' : n < ps.length := by simpa using hn
    have ih := congrFun (lkP_at h.cons.2 hn' v) j
    have hlt := h.cons.1 ps[n] (List.getElem_mem hn')
    simp only [List.set_cons_succ, List.getElem_cons_succ, lkP]
    rw [ih]
    by_cases e1 : j = x.1
    · rw [if_pos e1, if_neg (by omega), if_pos e1]
    · rw [if_neg e1, if_neg e1]
theorem asc_set {ps : PrL} (h : AscP ps) {n : Nat} (hn : n < ps.length) (v : List UInt8) : AscP (ps.set n (ps[n].1, v)) := by
  unfold AscP at *
  have e : (ps.set n (ps[n].1, v)).map (·.1) = ps.map (·.1) := by
    rw [List.map_set]
    have : (ps.map (·.1))[n]'(by simpa using hn) = ps[n].1 := by simp
    rw [← this, List.set_getElem_self]
  rw [e]
  exact h
/-- (Sound.) A value with one byte changed is accepted exactly if it is the same. -/
theorem check_value {M : KVs} {a b : Int} (hab : 0 ≤ a ∧ a ≤ b ∧ b ≤ 4095) {ks : List Int} (hk : AKeys M ks) (hl : ∀ k v, M k = some v → v.length ≤ 65536) {n : Nat} (hn : n < (pairsL M a b ks).length) {i : Nat} (hi : i < (pairsL M a b ks)[n].2.length) (c : UInt8) :
    checkP (rootN M) a b ((pairsL M a b ks).set n ((pairsL M a b ks)[n].1, (pairsL M a b ks)[n].2.set i c)) (rngP M a b) = if (pairsL M a b ks)[n].2.set i c = (pairsL M a b ks)[n].2 then 0 else 10 := by
  obtain ⟨ha, hw⟩ := range_ok (a := a) (b := b) hk hl
  have hmem := pairsL_mem (List.getElem_mem hn)
  have hval : lkP (pairsL M a b ks) (pairsL M a b ks)[n].1 = some (pairsL M a b ks)[n].2 := by
    rw [lk_pairsL M a b ks hk.1, if_pos ⟨hmem.1, hmem.2.1⟩, hmem.2.2]
  have hlen : (pairsL M a b ks)[n].2.length ≤ 65536 := by
    rw [hmem.2.2]
    cases hm : M (pairsL M a b ks)[n].1 with
    | none => simp
    | some v => exact hl _ v hm
  have hroot := hR_root (a := a) (b := b) hk
  obtain ⟨ps, hps⟩ : ∃ z, z = pairsL M a b ks := ⟨_, rfl⟩
  rw [← hps] at hroot ha hw
  have hall : ∀ (m : Nat) (hm : m < ps.length), (a ≤ ps[m].1 ∧ ps[m].1 ≤ b) ∧ ps[m].2.length ≤ 65536 := by
    subst hps
    intro m hm
    have h1 := pairsL_mem (List.getElem_mem hm)
    refine ⟨h1.2.1, ?_⟩
    rw [h1.2.2]
    cases hx : M (pairsL M a b ks)[m].1 with
    | none => simp
    | some v => exact hl _ v hx
  simp only [← hps] at hn hi hmem hval hlen ⊢
  have ha' := asc_set ha hn (ps[n].2.set i c)
  have hw' : wrongP a b (ps.set n (ps[n].1, ps[n].2.set i c)) none = false := wrong_asc ha' fun x hx => by
    refine ⟨?_, ?_, fun k e => by cases e⟩
    · rcases List.mem_or_eq_of_mem_set hx with hx | rfl
      · obtain ⟨m, hm, rfl⟩ := List.getElem_of_mem hx
        exact (hall m hm).1
      · exact hmem.2.1
    · rcases List.mem_or_eq_of_mem_set hx with hx | rfl
      · obtain ⟨m, hm, rfl⟩ := List.getElem_of_mem hx
        exact (hall m hm).2
      · simpa using hlen
  by_cases hs : ps[n].2.set i c = ps[n].2
  · rw [if_pos hs, hs, List.set_getElem_self, rngP_H, checkP_H hab _ _ ha hw, hroot, if_pos rfl]
  · rw [if_neg hs, rngP_H, checkP_H hab _ _ ha' hw', if_neg, ]
    rw [← hroot]
    have hd := (hR_diffM (H := fun x => hbN M x.1 x.2) (M := lkP ps) (M' := lkP (ps.set n (ps[n].1, ps[n].2.set i c))) (a := a) (b := b) (k := ps[n].1) (hbN_ltO M) hmem.2.1
      ⟨leafN ps[n].1 ps[n].2, leafN ps[n].1 (ps[n].2.set i c), by rw [hval]; rfl, by rw [lkP_at ha hn]; simp, fun e => leafN_set _ _ i c hi (by omega) hs e.symm⟩
      (fun j hj => by rw [lkP_at ha hn]; simp [hj]) 12 0).1 (by unfold inB; have := hmem.2.1; simp; omega)
    exact hd.getD
end Go.Proofs.YtcmjbjlliehdiaaDoor
