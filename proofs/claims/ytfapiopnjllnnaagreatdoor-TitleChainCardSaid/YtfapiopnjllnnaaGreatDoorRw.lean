/- A row of ratios in memory, its places by a function. Plain Lean, no program in sight. -/
import Derived.Test.YtfapiopnjllnnaaGreatDoorSl
import Derived.Test.YtfapiopnjllnnaaGreatDoorTr
namespace PA
open Go Go.RowKit
def rrow (N : Nat) (f : Nat → Rt) : List Value := (List.range N).flatMap fun i => [.int .i64 (f i).n, .int .i64 (f i).d]
def setR (f : Nat → Rt) (i : Nat) (r : Rt) : Nat → Rt := fun k => if k = i then r else f k
theorem rrow_succ (N : Nat) (f : Nat → Rt) : rrow (N + 1) f = rrow N f ++ [.int .i64 (f N).n, .int .i64 (f N).d] := by
  unfold rrow
  rw [List.range_succ, List.flatMap_append]
  simp
theorem rrow_len (N : Nat) (f : Nat → Rt) : (rrow N f).length = N * 2 := by
  induction N with
  | zero => rfl
  | succ N ih => rw [rrow_succ, List.length_append, ih]; simp; omega
theorem rrow_at : ∀ (N : Nat) (f : Nat → Rt) (i : Nat), i < N → (rrow N f)[i * 2]? = some (.int .i64 (f i).n) ∧ (rrow N f)[i * 2 + 1]? = some (.int .i64 (f i).d)
  | 0, _, _, h => by omega
  | N + 1, f, i, h => by
    rw [rrow_succ]
    by_cases hi : i < N
    · have := rrow_at N f i hi
      rw [List.getElem?_append_left (by rw [rrow_len]; omega), List.getElem?_append_left (by rw [rrow_len]; omega)]
      exact this
    · obtain rfl : i = N := by omega
      rw [List.getElem?_append_right (by rw [rrow_len]; omega), List.getElem?_append_right (by rw [rrow_len]; omega), rrow_len, Nat.sub_self, Nat.add_sub_cancel_left]
      exact ⟨rfl, rfl⟩
theorem rrow_congr {N : Nat} {f g : Nat → Rt} (h : ∀ i, i < N → f i = g i) : rrow N f = rrow N g := by
  induction N with
  | zero => rfl
  | succ N ih => rw [rrow_succ, rrow_succ, ih fun i hi => h i (by omega), h N (by omega)]
theorem rrow_set : ∀ (N : Nat) (f : Nat → Rt) (i : Nat) (r : Rt), i < N → ((rrow N f).set (i * 2) (.int .i64 r.n)).set (i * 2 + 1) (.int .i64 r.d) = rrow N (setR f i r)
  | 0, _, _, _, h => by omega
  | N + 1, f, i, r, h => by
    rw [rrow_succ, rrow_succ]
    by_cases hi : i < N
    · have hl := rrow_len N f
      rw [List.set_append_left _ _ (by omega), List.set_append_left _ _ (by rw [List.length_set]; omega), rrow_set N f i r hi]
      have e : setR f i r N = f N := by unfold setR; rw [if_neg (by omega)]
      rw [e]
    · obtain rfl : i = N := by omega
      have hl := rrow_len i f
      have e : rrow i (setR f i r) = rrow i f := rrow_congr fun k hk => by unfold setR; rw [if_neg (by omega)]
      have e2 : setR f i r i = r := by unfold setR; rw [if_pos rfl]
      rw [e, e2, List.set_append_right _ _ (by omega), List.set_append_right _ _ (by omega), hl, Nat.sub_self, Nat.add_sub_cancel_left]
      rfl
def rblk (t g N : Nat) (f : Nat → Rt) : Assn := blk g (.cells (rrow N f).toArray t (0, 0))
section
variable {W w : World} {A : Assn} {t g N : Nat} {f : Nat → Rt}
theorem Sat.rb_at (h : Sat W w (sep (rblk t g N f) A)) (i : Nat) (hi : i < N) : w.cell? ⟨g, i * 2, none⟩ = some (.int .i64 (f i).n) ∧ w.cell? ⟨g, i * 2 + 1, none⟩ = some (.int .i64 (f i).d) := by
  have := rrow_at N f i hi
  exact ⟨by rw [Sat.cell h]; simpa using this.1, by rw [Sat.cell h]; simpa using this.2⟩
theorem Sat.rb_set (h : Sat W w (sep (rblk t g N f) A)) (i : Nat) (hi : i < N) (r : Rt) : Sat W ((w.setCell ⟨g, i * 2, none⟩ (.int .i64 r.n)).setCell ⟨g, i * 2 + 1, none⟩ (.int .i64 r.d)) (sep (rblk t g N (setR f i r)) A) := by
  have h2 := (Sat.setCell h (i * 2) (.int .i64 r.n)).setCell (i * 2 + 1) (.int .i64 r.d)
  unfold rblk
  rw [← rrow_set N f i r hi]
  simpa only [List.setIfInBounds_toArray] using h2
end
end PA
