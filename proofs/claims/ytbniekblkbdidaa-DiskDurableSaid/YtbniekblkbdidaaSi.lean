/- SameInts. -/
import Derived.Test.YtbniekblkbdidaaUtil
namespace Go.Proofs.Ytbniekblkbdidaa
open Go.RowKit PA
attribute [local go_sem] Oper.semAt_some
theorem sameI_spec (w : World) (a b : Option Addr) (c d : Nat) (x y : List Int) (hl1 : (x.length : Int) ≤ 9223372036854775807) (hl2 : (y.length : Int) ≤ 9223372036854775807)
    (hx : x ≠ [] → ∃ g o, a = some ⟨g, o, none⟩ ∧ ∀ j u, (x.map iv)[j]? = some u → w.cell? ⟨g, o + j, none⟩ = some u)
    (hy : y ≠ [] → ∃ g o, b = some ⟨g, o, none⟩ ∧ ∀ j u, (y.map iv)[j]? = some u → w.cell? ⟨g, o + j, none⟩ = some u) :
    Calls Try.prog 48 #[.slice a x.length c, .slice b y.length d] w fun e w' => e = .returned (.bool (decide (x = y))) ∧ ∃ n, w' = w.drewN n := by
  obtain ⟨nx, hnx⟩ : ∃ nx, nx = x.length := ⟨_, rfl⟩
  obtain ⟨ny, hny⟩ : ∃ ny, ny = y.length := ⟨_, rfl⟩
  have HX := Lib.hid hx
  have HY := Lib.hid hy
  rw [← hnx] at hl1 ⊢
  rw [← hny] at hl2 ⊢
  have HNX := Lib.hid hnx
  have HNY := Lib.hid hny
  clear hx hy
  by_cases hne : nx = ny
  · subst hne
    clear hnx hny
    go_enter Try.func48, Try.ntmps48
    go_wp2
    go_loopw [5] (fun i wr => ∃ k : Nat, k ≤ nx ∧ i = .int .i64 k ∧ x.take k = y.take k ∧ ∃ n, wr = w.drewN n) (fun i _ => nx - (intOf i).toNat)
    case atStart => exact ⟨0, Nat.zero_le _, rfl, rfl, 0, rfl⟩
    case round =>
      obtain ⟨k, hk, rfl, htk, nd, rfl⟩ := hrel
      have HT := Lib.hid htk
      clear htk
      by_cases hlt : k < nx
      · have k1 : k < x.length := by have := HNX.out; omega
        have k2 : k < y.length := by have := HNY.out; omega
        obtain ⟨b1, o1, rfl, hc1⟩ := HX.out (by intro e; rw [e] at k1; simp at k1)
        obtain ⟨b2, o2, rfl, hc2⟩ := HY.out (by intro e; rw [e] at k2; simp at k2)
        have g1 := hc1 k (iv x[k]) (by simp [k1])
        have g2 := hc2 k (iv y[k]) (by simp [k2])
        clear hc1 hc2
        obtain ⟨xk, hxk⟩ : ∃ z, z = x[k] := ⟨_, rfl⟩
        obtain ⟨yk, hyk⟩ : ∃ z, z = y[k] := ⟨_, rfl⟩
        rw [← hxk] at g1
        rw [← hyk] at g2
        have HXK := Lib.hid hxk
        have HYK := Lib.hid hyk
        unfold iv at g1 g2
        clear hxk hyk
        by_cases hxy : xk = yk
        · subst hxy
          have b1 : ((xk : Int) != (xk : Int)) = false := by simp
          go_wp2_with fail
          refine wp_region_canon rfl (fun _ => True) [(0, .p), (1, .p), (2, .p), (3, .t), (4, .p), (5, .p), (6, .p), (7, .t), (8, .p)] (by kernel_rfl) ?_
          have hS0 : True := trivial
          (repeat (first | (refine C_p (v := ?_) rfl rfl (fun w' => ?_) ?_; rotate_left; (go_simp; with_reducible rfl); simp only [Act.put, List.setIfInBounds_toArray, List.set_cons_zero, List.set_cons_succ]) | (refine C_s (v := ?_) rfl rfl hS0 (fun w' hS => ?_) ?_; rotate_left; ((try dsimp only at hS); go_simp; with_reducible rfl); simp only [Act.put, List.setIfInBounds_toArray, List.set_cons_zero, List.set_cons_succ]) | (refine C_t (v := ?_) rfl rfl ?_ ?_; rotate_left; (go_simp; with_reducible rfl); simp only [Act.put, List.setIfInBounds_toArray, List.set_cons_zero, List.set_cons_succ]) | (refine C_po rfl rfl ?_; simp only [Act.put, List.setIfInBounds_toArray, List.set_cons_zero, List.set_cons_succ]) | (refine C_so rfl rfl hS0 ?_; simp only [Act.put, List.setIfInBounds_toArray, List.set_cons_zero, List.set_cons_succ]) | (refine C_to rfl rfl ?_; simp only [Act.put, List.setIfInBounds_toArray, List.set_cons_zero, List.set_cons_succ])))
          refine C_nil ?_
          go_wp2
          go_roundw
          case rel => exact ⟨k + 1, by omega, by go_num, by rw [List.take_succ_eq_append_getElem k1, List.take_succ_eq_append_getElem k2, HT.out, ← HXK.out, ← HYK.out], nd + 1, rfl⟩
          case measure => simp [intOf]; omega
        · have b1 : ((xk : Int) != (yk : Int)) = true := by simp; omega
          have HXY := Lib.hid hxy
          clear hxy
          go_wp2_with fail
          refine wp_region_canon rfl (fun _ => True) [(0, .p), (1, .p), (2, .p), (3, .t), (4, .p), (5, .p), (6, .p), (7, .t), (8, .p)] (by kernel_rfl) ?_
          have hS0 : True := trivial
          (repeat (first | (refine C_p (v := ?_) rfl rfl (fun w' => ?_) ?_; rotate_left; (go_simp; with_reducible rfl); simp only [Act.put, List.setIfInBounds_toArray, List.set_cons_zero, List.set_cons_succ]) | (refine C_s (v := ?_) rfl rfl hS0 (fun w' hS => ?_) ?_; rotate_left; ((try dsimp only at hS); go_simp; with_reducible rfl); simp only [Act.put, List.setIfInBounds_toArray, List.set_cons_zero, List.set_cons_succ]) | (refine C_t (v := ?_) rfl rfl ?_ ?_; rotate_left; (go_simp; with_reducible rfl); simp only [Act.put, List.setIfInBounds_toArray, List.set_cons_zero, List.set_cons_succ]) | (refine C_po rfl rfl ?_; simp only [Act.put, List.setIfInBounds_toArray, List.set_cons_zero, List.set_cons_succ]) | (refine C_so rfl rfl hS0 ?_; simp only [Act.put, List.setIfInBounds_toArray, List.set_cons_zero, List.set_cons_succ]) | (refine C_to rfl rfl ?_; simp only [Act.put, List.setIfInBounds_toArray, List.set_cons_zero, List.set_cons_succ])))
          refine C_nil ?_
          go_wp2
          go_ret
          refine ⟨ret_b (Eq.symm (decide_eq_false (fun e => HXY.out (by have h1 := HXK.out; have h2 := HYK.out; subst e; exact h1.trans h2.symm)))), nd + 1, rfl⟩
      · go_wp2
        go_ret
        have hkn : k = nx := by omega
        refine ⟨ret_b (Eq.symm (decide_eq_true ?_)), nd, rfl⟩
        have := HT.out
        rw [hkn] at this
        rw [List.take_of_length_le (by have := HNX.out; omega), List.take_of_length_le (by have := HNY.out; omega)] at this
        exact this
  · have b1 : ((nx : Int) != (ny : Int)) = true := by simp; omega
    go_enter Try.func48, Try.ntmps48
    go_wp2
    go_ret
    refine ⟨ret_b (Eq.symm (decide_eq_false (fun e => hne ?_))), 0, rfl⟩
    rw [HNX.out, HNY.out, e]

section
variable {W w : World} {A : Assn}
theorem srcI_osl {E : Nat} {a : Option Addr} {n c : Nat} {xs : List Value} {α : Type} {x : List α} (g : α → Value) (hx : xs = x.map g) (h : Sat W w (sep (osl E 1 a n c xs) A)) : x ≠ [] → ∃ b o, a = some ⟨b, o, none⟩ ∧ ∀ j u, (x.map g)[j]? = some u → w.cell? ⟨b, o + j, none⟩ = some u := by
  intro hne
  obtain ⟨g', e, hc⟩ := h.osl_at (fun e => hne (by rw [hx] at e; exact List.map_eq_nil_iff.1 e))
  subst hx
  exact ⟨g', 0, e, fun j u hu => by rw [Nat.zero_add]; exact hc j u hu⟩
theorem oslI_len {E : Nat} {a : Option Addr} {n c : Nat} {xs : List Value} (h : Sat W w (sep (osl E 1 a n c xs) A)) : (n : Int) ≤ 9223372036854775807 := by
  have := h.swf_of_osl
  have h1 := this.1; have h2 := this.2.1; unfold maxLen at h2; omega
theorem sameI_sat (a b : Option Addr) (c d : Nat) (x y : List Int) (h : Sat W w (sep (osl 3 1 a x.length c (x.map iv)) (sep (osl 3 1 b y.length d (y.map iv)) A))) :
    Calls Try.prog 48 #[.slice a x.length c, .slice b y.length d] w fun e w' => e = .returned (.bool (decide (x = y))) ∧ Sat W w' A := by
  refine (sameI_spec w a b c d x y (oslI_len h) (oslI_len h.p1) (srcI_osl iv rfl h) (srcI_osl iv rfl h.p1)).mono ?_
  rintro e w' ⟨rfl, n, rfl⟩
  exact ⟨rfl, h.forget_osl.forget_osl.alike rfl rfl rfl rfl⟩
end
end Go.Proofs.Ytbniekblkbdidaa
