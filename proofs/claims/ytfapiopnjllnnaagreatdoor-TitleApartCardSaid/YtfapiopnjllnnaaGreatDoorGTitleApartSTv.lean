/- Package title: Chain (no error). -/
import Derived.Test.YtfapiopnjllnnaaGreatDoorGTitleApart29
import Derived.Test.YtfapiopnjllnnaaGreatDoorGTitleApartST1
import Derived.Deep.DeepCutAuto
namespace Go.Proofs.YtfapiopnjllnnaaGreatDoor
open Go.RowKit PA
attribute [local go_sem] Oper.semAt_some
theorem osl_setT {W w : World} {A : Assn} {E : Nat} {a : Option Addr} {n c : Nat} {xs : List Value} (h : Sat W w (sep (osl E 1 a n c xs) A)) (k : Nat) (hk : k < xs.length) (v : Value) :
    ∃ g, a = some ⟨g, 0, none⟩ ∧ w.cell? ⟨g, k, none⟩ = some xs[k] ∧ w.frozen? ⟨g, k, none⟩ = false ∧ Sat W (w.setCell ⟨g, k, none⟩ v) (sep (osl E 1 a n c (xs.set k v)) A) := by
  rcases h.osl_cases with ⟨rfl, rfl, rfl, rfl, _⟩ | ⟨g, cur, rfl, hlen, hnc, hcm, hcs, htake, hS⟩
  · simp at hk
  · simp only [Nat.mul_one] at hlen hcs htake
    have hkc : k < cur.size := by omega
    refine ⟨g, rfl, ?_, hS.unfrozen k, ?_⟩
    · rw [hS.cell k, Array.getElem?_eq_getElem hkc]
      congr 1
      have : (cur.toList.take n)[k]? = xs[k]? := by rw [htake]
      rw [List.getElem?_take, if_pos (by omega), List.getElem?_eq_getElem hk] at this
      simpa [hkc] using this
    · refine (hS.setCell k v).osl_mk n c 1 (xs.set k v) (by simp [hlen]) hnc hcm (by simp [hcs]) ?_
      rw [Nat.mul_one, Array.toList_setIfInBounds, List.take_set, htake]
/-- A list of which the first and the last t places are exchanged. -/
def revT (xs : List Int) (t : Nat) : List Int := (List.range xs.length).map fun k => if k < t ∨ xs.length - 1 - t < k then xs.getD (xs.length - 1 - k) 0 else xs.getD k 0
theorem revT_len (xs : List Int) (t : Nat) : (revT xs t).length = xs.length := by simp [revT]
theorem revT_get (xs : List Int) (t k : Nat) (hk : k < xs.length) : (revT xs t)[k]'(by rw [revT_len]; exact hk) = if k < t ∨ xs.length - 1 - t < k then xs.getD (xs.length - 1 - k) 0 else xs.getD k 0 := by
  simp [revT]
theorem revT_zero (xs : List Int) : revT xs 0 = xs := by
  apply List.ext_getElem (revT_len xs 0)
  intro k h1 h2
  rw [revT_get xs 0 k h2, if_neg (by omega), List.getD_eq_getElem?_getD, List.getElem?_eq_getElem h2]; rfl
theorem revT_end (xs : List Int) (t : Nat) (h : xs.length ≤ 2 * t + 1) : revT xs t = xs.reverse := by
  apply List.ext_getElem (by rw [revT_len, List.length_reverse])
  intro k h1 h2
  have hk : k < xs.length := by simpa using h2
  rw [revT_get xs t k hk, List.getElem_reverse]
  split
  · rw [List.getD_eq_getElem?_getD, List.getElem?_eq_getElem (by omega)]; rfl
  · have e : xs.length - 1 - k = k := by omega
    rw [List.getD_eq_getElem?_getD, List.getElem?_eq_getElem hk]
    simp only [e]; rfl
theorem revT_step (xs : List Int) (t : Nat) (h : 2 * t + 1 < xs.length) : ((revT xs t).set t ((revT xs t).getD (xs.length - 1 - t) 0)).set (xs.length - 1 - t) ((revT xs t).getD t 0) = revT xs (t + 1) := by
  have g1 : (revT xs t).getD (xs.length - 1 - t) 0 = xs.getD (xs.length - 1 - t) 0 := by
    rw [List.getD_eq_getElem?_getD, List.getElem?_eq_getElem (by rw [revT_len]; omega), Option.getD_some, revT_get xs t _ (by omega), if_neg (by omega)]
  have g2 : (revT xs t).getD t 0 = xs.getD t 0 := by
    rw [List.getD_eq_getElem?_getD, List.getElem?_eq_getElem (by rw [revT_len]; omega), Option.getD_some, revT_get xs t _ (by omega), if_neg (by omega)]
  rw [g1, g2]
  apply List.ext_getElem (by rw [List.length_set, List.length_set, revT_len, revT_len])
  intro k h1 h2
  have hk : k < xs.length := by rw [revT_len] at h2; exact h2
  rw [revT_get xs (t + 1) k hk, List.getElem_set]
  by_cases e1 : xs.length - 1 - t = k
  · rw [if_pos e1, if_pos (by omega)]
    congr 1; omega
  · rw [if_neg e1, List.getElem_set]
    by_cases e2 : t = k
    · rw [if_pos e2, if_pos (by omega)]
      congr 1; omega
    · rw [if_neg e2, revT_get xs t k hk]
      by_cases e3 : k < t ∨ xs.length - 1 - t < k
      · rw [if_pos e3, if_pos (by omega)]
      · rw [if_neg e3, if_neg (by omega)]
set_option maxHeartbeats 2000000 in
theorem reverse_spec {W w : World} {A : Assn} (a : Option Addr) (n c : Nat) (xs : List Int) (hn : xs.length = n) (h40 : n ≤ 1000) (h : Sat W w (sep (osl 3 1 a n c (xs.map iv)) A)) :
    Calls Tryz.prog 49 #[.slice a n c] w fun e w' => e = .returned (.tuple #[]) ∧ Sat W w' (sep (osl 3 1 a n c (xs.reverse.map iv)) A) := by
  have HN := Lib.hid hn
  have H := Lib.hid h
  have hnI : (n : Int) ≤ 1000 := by omega
  clear hn h
  go_enter Tryz.func49, Tryz.ntmps49
  go_wp2
  go_loopw [2, 3] (fun iv0 jv wr => ∃ t : Nat, iv0 = .int .i64 t ∧ jv = .int .i64 ((n : Int) - 1 - t) ∧ 2 * t ≤ n + 1 ∧ Sat W wr (sep (osl 3 1 a n c ((revT xs t).map iv)) A)) (fun iv0 _ _ => n + 1 - (intOf iv0).toNat)
  case atStart =>
    refine ⟨0, rfl, by simp, by omega, ?_⟩
    rw [revT_zero]
    exact H.out
  case round =>
    obtain ⟨t, rfl, rfl, ht, hS⟩ := hrel
    by_cases hlt : 2 * t + 1 < n
    · obtain ⟨j, hj⟩ : ∃ j, j = n - 1 - t := ⟨_, rfl⟩
      have ej : (n : Int) - 1 - (t : Int) = (j : Int) := by omega
      rw [ej]
      have htj : (t : Int) < (j : Int) := by omega
      have htn : (t : Int) < (n : Int) := by omega
      have hjn : (j : Int) < (n : Int) := by omega
      have hd := hS.drew
      obtain ⟨wd, hwd⟩ : ∃ wd, wd = wr.drew := ⟨_, rfl⟩
      rw [← hwd] at hd
      obtain ⟨vi, hvi⟩ : ∃ z, z = (revT xs t).getD t 0 := ⟨_, rfl⟩
      obtain ⟨vj, hvj⟩ : ∃ z, z = (revT xs t).getD (xs.length - 1 - t) 0 := ⟨_, rfl⟩
      have hlen : ((revT xs t).map iv).length = n := by rw [List.length_map, revT_len, HN.out]
      obtain ⟨g, rfl, c1, u1, h1⟩ := osl_setT hd t (by omega) (iv vj)
      obtain ⟨g', e', c2, u2, -⟩ := osl_setT hd j (by omega) (iv vi)
      cases e'
      obtain ⟨g', e', c3, u3, h2⟩ := osl_setT h1 j (by rw [List.length_set]; omega) (iv vi)
      cases e'
      have k1 : wd.cell? ⟨g, t, none⟩ = some (.int .i64 vi) := by
        rw [c1, List.getElem_map, hvi, List.getD_eq_getElem?_getD, List.getElem?_eq_getElem (by rw [revT_len, HN.out]; omega)]; rfl
      have k2 : wd.cell? ⟨g, j, none⟩ = some (.int .i64 vj) := by
        rw [c2, List.getElem_map, hvj, List.getD_eq_getElem?_getD, List.getElem?_eq_getElem (by rw [revT_len, HN.out]; omega)]
        simp only [hj, HN.out]; rfl
      obtain ⟨ov, k3⟩ : ∃ ov, (wd.setCell ⟨g, t, none⟩ (.int .i64 vj)).cell? ⟨g, j, none⟩ = some ov := ⟨_, c3⟩
      have u3' : (wd.setCell ⟨g, t, none⟩ (.int .i64 vj)).frozen? ⟨g, j, none⟩ = false := u3
      have hres : Sat W ((wd.setCell ⟨g, t, none⟩ (.int .i64 vj)).setCell ⟨g, j, none⟩ (.int .i64 vi)) (sep (osl 3 1 (some ⟨g, 0, none⟩) n c ((revT xs (t + 1)).map iv)) A) := by
        have e : ((revT xs t).map iv).set t (iv vj) = ((revT xs t).set t vj).map iv := List.map_set.symm
        have e2 : (((revT xs t).set t vj).map iv).set j (iv vi) = (((revT xs t).set t vj).set j vi).map iv := List.map_set.symm
        rw [e, e2] at h2
        have e3 : ((revT xs t).set t vj).set j vi = revT xs (t + 1) := by
          rw [hvi, hvj, hj, ← HN.out]
          exact revT_step xs t (by rw [HN.out]; exact hlt)
        rw [e3] at h2
        exact h2
      obtain ⟨wz, hwz⟩ : ∃ wz, wz = wd.setCell ⟨g, t, none⟩ (.int .i64 vj) := ⟨_, rfl⟩
      rw [← hwz] at k3 u3' hres
      have HRES := Lib.hid hres
      have HWD := Lib.hid hwd
      have HWZ := Lib.hid hwz
      have HK := Lib.hid (And.intro k1 (And.intro k2 u1))
      have HK3 := Lib.hid (And.intro k3 u3')
      have HJ := Lib.hid hj
      clear hS hd hwd hvi hvj hlen c1 c2 c3 u1 u2 u3 h1 h2 k1 k2 k3 u3' hres hwz hj ej H
      go_upto_region 3 with (fail)
      obtain ⟨k1, k2, u1⟩ := HK.out
      refine wp_region_canon rfl (fun _ => True) [(0, .p), (1, .p), (2, .p), (3, .p), (4, .p), (5, .p), (6, .p), (7, .t), (8, .p), (9, .p), (10, .p), (11, .t), (12, .p), (13, .e false), (14, .p), (15, .e false)] (by kernel_rfl) ?_
      have hS0 : True := trivial
      rw [← HWD.out]
      (repeat ((first | (refine C_p (v := ?_) rfl rfl (fun w' => ?_) ?_; rotate_left; (go_simp; with_reducible rfl)) | (refine C_s (v := ?_) rfl rfl hS0 (fun w' hS => ?_) ?_; rotate_left; ((try dsimp only at hS); go_simp; with_reducible rfl)) | (refine C_t (v := ?_) rfl rfl ?_ ?_; rotate_left; (go_simp; with_reducible rfl)) | (refine C_po rfl rfl ?_) | (refine C_so rfl rfl hS0 ?_) | (refine C_to rfl rfl ?_)); simp only [Act.put, List.setIfInBounds_toArray, List.set_cons_zero, List.set_cons_succ]))
      (refine C_e rfl rfl (fun K hK => ?_); go_simp)
      rw [← HWZ.out]
      (refine hK _ _ (fun h => by cases h) ?_; clear hK K; (try simp only [Act.put, List.setIfInBounds_toArray, List.set_cons_zero, List.set_cons_succ]))
      clear k1 k2 u1
      obtain ⟨k3, u3⟩ := HK3.out
      (repeat ((first | (refine C_p (v := ?_) rfl rfl (fun w' => ?_) ?_; rotate_left; (go_simp; with_reducible rfl)) | (refine C_s (v := ?_) rfl rfl hS0 (fun w' hS => ?_) ?_; rotate_left; ((try dsimp only at hS); go_simp; with_reducible rfl)) | (refine C_t (v := ?_) rfl rfl ?_ ?_; rotate_left; (go_simp; with_reducible rfl)) | (refine C_po rfl rfl ?_) | (refine C_so rfl rfl hS0 ?_) | (refine C_to rfl rfl ?_)); simp only [Act.put, List.setIfInBounds_toArray, List.set_cons_zero, List.set_cons_succ]))
      (refine C_e rfl rfl (fun K hK => ?_); go_simp)
      (refine hK _ _ (fun h => by cases h) ?_; clear hK K; (try simp only [Act.put, List.setIfInBounds_toArray, List.set_cons_zero, List.set_cons_succ]))
      refine C_nil ?_
      clear k3 u3
      go_wp2
      go_roundw
      case rel => exact ⟨t + 1, by go_num, by have := HJ.out; go_num, by omega, HRES.out⟩
      case measure => simp [intOf]; omega
    · have hge : (n : Int) - 1 - (t : Int) ≤ (t : Int) := by omega
      obtain ⟨jz, hjz⟩ : ∃ z, z = (n : Int) - 1 - (t : Int) := ⟨_, rfl⟩
      rw [← hjz] at hge ⊢
      have HS := Lib.hid hS
      clear hS hjz H
      go_wp2
      go_end0
      refine ⟨rfl, ?_⟩
      have := HS.out
      rw [revT_end xs t (by rw [HN.out]; omega)] at this
      exact this
end Go.Proofs.YtfapiopnjllnnaaGreatDoor
