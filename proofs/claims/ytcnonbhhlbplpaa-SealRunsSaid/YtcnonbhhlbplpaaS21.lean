/- The reference's box in plain: a list of entries in increasing order of their numbers. -/
import Derived.Test.YtcnonbhhlbplpaaS8
namespace PA
open Go
abbrev EntL := List (Int × Ent)
def lkL : EntL → Int → Option Ent
  | [], _ => none
  | x :: l, k => if k = x.1 then some x.2 else lkL l k
def fndL : EntL → Int → Nat
  | [], _ => 0
  | x :: l, k => if x.1 < k then fndL l k + 1 else 0
def insL (L : EntL) (k : Int) (e : Ent) : EntL := L.take (fndL L k) ++ (k, e) :: L.drop (fndL L k)
def opnL (L : EntL) (k : Int) : EntL := L.modify (fndL L k) fun x => (x.1, { x.2 with o := true })
def Asc (L : EntL) : Prop := (L.map (·.1)).Pairwise (· < ·)
theorem fndL_le : ∀ (L : EntL) (k : Int), fndL L k ≤ L.length
  | [], _ => Nat.le_refl _
  | x :: l, k => by
    unfold fndL
    split
    · have := fndL_le l k; simp; omega
    · simp
theorem fndL_lt : ∀ (L : EntL) (k : Int) (i : Nat) (hi : i < L.length), i < fndL L k → L[i].1 < k
  | [], _, _, hi, _ => by simp at hi
  | x :: l, k, i, hi, h => by
    unfold fndL at h
    split at h
    · rename_i hx
      cases i with
      | zero => exact hx
      | succ i => exact fndL_lt l k i (by simpa using hi) (by omega)
    · omega
theorem fndL_ge : ∀ (L : EntL) (k : Int) (h : fndL L k < L.length), ¬ L[fndL L k].1 < k
  | [], _, h => by simp at h
  | x :: l, k, h => by
    by_cases hx : x.1 < k
    · have e : fndL (x :: l) k = fndL l k + 1 := by rw [fndL, if_pos hx]
      simp only [e, List.getElem_cons_succ]
      exact fndL_ge l k (by rw [e] at h; simpa using h)
    · have e : fndL (x :: l) k = 0 := by rw [fndL, if_neg hx]
      simp only [e, List.getElem_cons_zero]
      exact hx
theorem lkL_none_of : ∀ {L : EntL} {k : Int}, (∀ x ∈ L, x.1 ≠ k) → lkL L k = none
  | [], _, _ => rfl
  | x :: l, k, h => by
    rw [lkL, if_neg (fun e => h x (by simp) e.symm)]
    exact lkL_none_of fun y hy => h y (by simp [hy])
theorem Asc.cons {x : Int × Ent} {l : EntL} (h : Asc (x :: l)) : (∀ y ∈ l, x.1 < y.1) ∧ Asc l := by
  have := List.pairwise_cons.1 h
  exact ⟨fun y hy => this.1 _ (List.mem_map.2 ⟨y, hy, rfl⟩), this.2⟩
theorem lkL_at : ∀ {L : EntL}, Asc L → ∀ k, lkL L k = if h : fndL L k < L.length then (if L[fndL L k].1 = k then some L[fndL L k].2 else none) else none
  | [], _, k => by simp [lkL]
  | x :: l, h, k => by
    by_cases hx : x.1 < k
    · have e : fndL (x :: l) k = fndL l k + 1 := by rw [fndL, if_pos hx]
      rw [lkL, if_neg (by omega), lkL_at h.cons.2 k]
      simp only [e, List.getElem_cons_succ, List.length_cons, Nat.add_lt_add_iff_right]
    · have e : fndL (x :: l) k = 0 := by rw [fndL, if_neg hx]
      simp only [e, List.length_cons, List.getElem_cons_zero]
      rw [dif_pos (by omega), lkL]
      by_cases hk : k = x.1
      · rw [if_pos hk, if_pos hk.symm]
      · rw [if_neg hk, if_neg (Ne.symm hk)]
        exact lkL_none_of fun y hy => by have := h.cons.1 y hy; omega
theorem insL_cons_lt {x : Int × Ent} {l : EntL} {k : Int} (e : Ent) (h : x.1 < k) : insL (x :: l) k e = x :: insL l k e := by
  simp [insL, fndL, h]
theorem insL_cons_ge {x : Int × Ent} {l : EntL} {k : Int} (e : Ent) (h : ¬ x.1 < k) : insL (x :: l) k e = (k, e) :: x :: l := by
  simp [insL, fndL, h]
theorem insL_lk (e : Ent) (k : Int) : ∀ (L : EntL), lkL (insL L k e) = eset (lkL L) k e
  | [] => by funext j; simp [insL, fndL, lkL, eset]
  | x :: l => by
    by_cases hx : x.1 < k
    · rw [insL_cons_lt e hx]
      funext j
      have ih := congrFun (insL_lk e k l) j
      simp only [lkL, ih, eset]
      by_cases hj : j = x.1
      · rw [if_pos hj, if_neg (by omega), if_pos hj]
      · rw [if_neg hj, if_neg hj]
    · rw [insL_cons_ge e hx]
      funext j
      simp only [lkL, eset]
theorem insL_mem (e : Ent) (k : Int) (L : EntL) (y : Int × Ent) (h : y ∈ insL L k e) : y = (k, e) ∨ y ∈ L := by
  unfold insL at h
  rcases List.mem_append.1 h with h | h
  · exact .inr (List.mem_of_mem_take h)
  · rcases List.mem_cons.1 h with h | h
    · exact .inl h
    · exact .inr (List.mem_of_mem_drop h)
theorem insL_asc (e : Ent) (k : Int) : ∀ {L : EntL}, Asc L → lkL L k = none → Asc (insL L k e)
  | [], _, _ => by simp [insL, fndL, Asc]
  | x :: l, h, hk => by
    have hne : ¬ k = x.1 := fun e => by rw [lkL, if_pos e] at hk; cases hk
    have hk2 : lkL l k = none := by rw [lkL, if_neg hne] at hk; exact hk
    by_cases hx : x.1 < k
    · rw [insL_cons_lt e hx]
      refine List.pairwise_cons.2 ⟨fun y hy => ?_, insL_asc e k h.cons.2 hk2⟩
      obtain ⟨z, hz, rfl⟩ := List.mem_map.1 hy
      rcases insL_mem e k l z hz with rfl | hz
      · exact hx
      · exact h.cons.1 z hz
    · rw [insL_cons_ge e hx]
      refine List.pairwise_cons.2 ⟨fun y hy => ?_, h⟩
      obtain ⟨z, hz, rfl⟩ := List.mem_map.1 hy
      dsimp only
      rcases List.mem_cons.1 hz with rfl | hz
      · omega
      · have := h.cons.1 z hz; omega
theorem insL_len (L : EntL) (k : Int) (e : Ent) : (insL L k e).length = L.length + 1 := by
  have := fndL_le L k
  simp [insL]; omega
theorem opnL_cons_lt {x : Int × Ent} {l : EntL} {k : Int} (h : x.1 < k) : opnL (x :: l) k = x :: opnL l k := by
  simp [opnL, fndL, h]
theorem opnL_cons_ge {x : Int × Ent} {l : EntL} {k : Int} (h : ¬ x.1 < k) : opnL (x :: l) k = (x.1, { x.2 with o := true }) :: l := by
  simp [opnL, fndL, h]
theorem opnL_keys : ∀ (L : EntL) (k : Int), (opnL L k).map (·.1) = L.map (·.1)
  | [], _ => by simp [opnL]
  | x :: l, k => by
    by_cases hx : x.1 < k
    · rw [opnL_cons_lt hx, List.map_cons, List.map_cons, opnL_keys l k]
    · rw [opnL_cons_ge hx]; rfl
theorem opnL_asc {L : EntL} (h : Asc L) (k : Int) : Asc (opnL L k) := by unfold Asc; rw [opnL_keys]; exact h
theorem opnL_len (L : EntL) (k : Int) : (opnL L k).length = L.length := by simp [opnL]
theorem opnL_lk (k : Int) (e : Ent) : ∀ (L : EntL), Asc L → lkL L k = some e → lkL (opnL L k) = eset (lkL L) k { e with o := true }
  | [], _, h => by simp [lkL] at h
  | x :: l, ha, h => by
    by_cases hx : x.1 < k
    · rw [opnL_cons_lt hx]
      have h2 : lkL l k = some e := by rw [lkL, if_neg (by omega)] at h; exact h
      have ih := opnL_lk k e l ha.cons.2 h2
      funext j
      simp only [lkL, ih, eset]
      by_cases hj : j = x.1
      · rw [if_pos hj, if_neg (by omega), if_pos hj]
      · rw [if_neg hj, if_neg hj]
    · have hk : k = x.1 := by
        by_cases hk : k = x.1
        · exact hk
        · rw [lkL, if_neg hk, lkL_none_of (fun y hy => by have := ha.cons.1 y hy; omega)] at h; cases h
      rw [opnL_cons_ge hx]
      rw [lkL, if_pos hk] at h
      cases h
      funext j
      simp only [lkL, eset, hk]
      by_cases hj : j = x.1
      · rw [if_pos hj, if_pos hj]
      · rw [if_neg hj, if_neg hj, if_neg hj]
def sldL (L : EntL) : List Int := (L.filter fun x => !x.2.o).map (·.1)
def cmsL (L : EntL) : List Nat := L.map fun x => commitN x.2.b x.2.s
theorem lkL_mem : ∀ {L : EntL}, Asc L → ∀ x ∈ L, lkL L x.1 = some x.2
  | x :: l, h, y, hy => by
    rcases List.mem_cons.1 hy with rfl | hy
    · rw [lkL, if_pos rfl]
    · have := h.cons.1 y hy
      rw [lkL, if_neg (by omega)]
      exact lkL_mem h.cons.2 y hy
theorem lkL_keys : ∀ {L : EntL}, ∀ k, k ∈ L.map (·.1) ↔ (lkL L k).isSome = true
  | [], k => by simp [lkL]
  | x :: l, k => by
    rw [lkL]
    by_cases h : k = x.1
    · simp [h]
    · rw [if_neg h, ← lkL_keys (L := l) k]
      simp [h]
end PA
namespace Go.Proofs.Ytcnonbhhlbplpaa
open Go.RowKit PA
theorem mkeys_L {L : EntL} (h : Asc L) : MKeys (lkL L) (L.map (·.1)) := ⟨h, fun k => lkL_keys k⟩
theorem sld_eq {L : EntL} (h : Asc L) : (L.map (·.1)).filter (fun k => !opE (lkL L) k) = sldL L := by
  unfold sldL
  rw [List.filter_map]
  congr 1
  exact List.filter_congr fun x hx => by simp only [Function.comp, opE, lkL_mem h x hx]
theorem cms_eq {L : EntL} (h : Asc L) : (L.map (·.1)).map (comE (lkL L)) = cmsL L := by
  unfold cmsL
  rw [List.map_map]
  exact List.map_congr_left fun x hx => by simp only [Function.comp, comE, lkL_mem h x hx]
end Go.Proofs.Ytcnonbhhlbplpaa
