/- The reference's Outside. -/
import Derived.Test.YtcmjbjlliehdiaaDoorGAuthmapSound39
namespace Go.Proofs.YtcmjbjlliehdiaaDoor
open Go.RowKit PA
attribute [local go_sem] Oper.semAt_some
theorem infoQBlock : (Tryd.prog.info? 117).map (fun i => (i.zero, i.size, i.bytes)) = some (some (.agg #[.int .i64 0, .int .i64 0]), 2, 16) := by kernel_rfl
/-- A block's cells, as the reference has them. -/
def blkQ (x : Nat × Int) : List Value := [.int .i64 (x.2 * 2 ^ x.1), .int .i64 (2 ^ x.1)]
def blkC (xs : List (Nat × Int)) : List Value := xs.flatMap blkQ
theorem blkC_len : ∀ xs : List (Nat × Int), (blkC xs).length = xs.length * 2
  | [] => rfl
  | x :: xs => by
    have := blkC_len xs
    unfold blkC at this ⊢
    rw [List.flatMap_cons, List.length_append, this, List.length_cons]
    show 2 + _ = _
    omega
theorem blkC_append (xs ys : List (Nat × Int)) : blkC (xs ++ ys) = blkC xs ++ blkC ys := by unfold blkC; rw [List.flatMap_append]
theorem blkC_one (xs : List (Nat × Int)) : ∀ u ∈ blkC xs, u.oneCell' = true := by
  intro u hu
  unfold blkC at hu
  obtain ⟨x, -, hx⟩ := List.mem_flatMap.1 hu
  unfold blkQ at hx
  simp at hx
  rcases hx with rfl | rfl <;> rfl
theorem blkC_get : ∀ (xs : List (Nat × Int)) (i : Nat) (hi : i < xs.length), (blkC xs)[i * 2]? = some (.int .i64 (xs[i].2 * 2 ^ xs[i].1)) ∧ (blkC xs)[i * 2 + 1]? = some (.int .i64 (2 ^ xs[i].1))
  | [], i, hi => by simp at hi
  | x :: xs, 0, _ => by simp [blkC, blkQ]
  | x :: xs, i + 1, hi => by
    have ih := blkC_get xs i (by simpa using hi)
    unfold blkC at ih ⊢
    rw [List.flatMap_cons, show (i + 1) * 2 = 2 + i * 2 by omega, show 2 + i * 2 + 1 = 2 + (i * 2 + 1) by omega]
    have e : ∀ j, (blkQ x ++ List.flatMap blkQ xs)[2 + j]? = (List.flatMap blkQ xs)[j]? := fun j => by
      rw [List.getElem?_append_right (by simp [blkQ])]
      congr 1
      simp [blkQ]
    rw [e, e]
    simpa using ih
def QOs (W : World) (a b : Int) (l : Nat) : Prop := ∀ (n : Int) {w : World} {A : Assn}, inT l n → Sat W w A →
  Calls Tryd.prog 60 #[.agg #[.int .i64 (n * 2 ^ l), .int .i64 (2 ^ l)], .int .i64 a, .int .i64 b] w fun e w' => ∃ ad c, e = .returned (.slice ad (outL a b l n).length c) ∧ Sat W w' (sep (osl 117 2 ad (outL a b l n).length c (blkC (outL a b l n))) A)
set_option maxRecDepth 100000 in
set_option maxHeartbeats 8000000 in
theorem qoutside_core {W : World} {a b : Int} (hab : 0 ≤ a ∧ a ≤ b ∧ b ≤ 4095) (l : Nat) (IH : ∀ l', l = l' + 1 → QOs W a b l') : QOs W a b l := by
  intro n w A hT h
  obtain ⟨F, hF⟩ : ∃ F, F = n * 2 ^ l := ⟨_, rfl⟩
  obtain ⟨Z, hZ⟩ : ∃ Z : Int, Z = 2 ^ l := ⟨_, rfl⟩
  obtain ⟨hl12, hn0, -, hb0, -, hb1⟩ := inT_bounds hT
  have hZ1 : 1 ≤ Z := by have := pow_pos2 l; omega
  have hFZ : (n + 1) * 2 ^ l = F + Z := by rw [Int.add_mul, Int.one_mul, ← hF, ← hZ]
  have hbF : bFirst (l, n) = F := by rw [hF]; rfl
  have hbL : bLast (l, n) = F + Z - 1 := by unfold bLast; rw [hFZ]
  rw [hbF] at hb0
  rw [hbL] at hb1
  obtain ⟨x, hx⟩ : ∃ x, x = w.heap.size := ⟨_, rfl⟩
  have h1 := h.alloc (.cells #[.int .i64 F, .int .i64 Z] 117)
  obtain ⟨w1, hw1⟩ : ∃ w1, w1 = w.alloc (.cells #[.int .i64 F, .int .i64 Z] 117) := ⟨_, rfl⟩
  rw [← hx, ← hw1] at h1
  have HX := Lib.hid (And.intro hx hw1)
  rw [← hF, ← hZ]
  have c0 : w1.cell? ⟨x, 0, none⟩ = some (.int .i64 F) := h1.cell 0
  have c1 : w1.cell? ⟨x, 1, none⟩ = some (.int .i64 Z) := h1.cell 1
  obtain ⟨ha0, hab1, hb4⟩ := hab
  by_cases ho : F + Z ≤ a ∨ b < F
  · have hout : outL a b l n = [(l, n)] := outL_out (by rw [hbF, hbL]; omega)
    have h2 := (h1.alloc (.cells #[.int .i64 F, .int .i64 Z] 117)).osl_mk 1 1 2 [.int .i64 F, .int .i64 Z] rfl (Nat.le_refl _) (by unfold maxLen; omega) rfl rfl
    have H2 : Hid (Sat W (w1.alloc (.cells #[.int .i64 F, .int .i64 Z] 117)) (sep (osl 117 2 (some ⟨w1.heap.size, 0, none⟩) 1 1 (blkC [(l, n)])) A)) := Lib.hid (by
      have e : blkC [(l, n)] = [.int .i64 F, .int .i64 Z] := by rw [hF, hZ]; rfl
      rw [e]
      exact h2.p1.drop |> fun h => by simpa only [sep_comm, sep_lcomm, sep_assoc] using h)
    rw [hout]
    clear h h1 h2 hx hw1 hF hZ hFZ hbF hbL hT hout IH
    go_enter Tryd.func60, Tryd.ntmps60
    go_upto_region 1 with (fail)
    rw [← HX.out.1, ← HX.out.2]
    by_cases h1 : F + Z ≤ a
    · clear ho
      go_wp2_with fail
      go_ret
      exact ⟨_, _, rfl, H2.out⟩
    · have h2 : b < F := ho.resolve_left h1
      clear ho
      go_wp2_with fail
      go_ret
      exact ⟨_, _, rfl, H2.out⟩
  · have g1 : ¬ F + Z ≤ a := fun h => ho (.inl h)
    have g2 : ¬ b < F := fun h => ho (.inr h)
    by_cases hi : a ≤ F ∧ F + Z - 1 ≤ b
    · obtain ⟨g3, g4⟩ := hi
      have hout : outL a b l n = [] := outL_in (by rw [hbF, hbL]; omega) (by rw [hbF, hbL]; exact ⟨g3, g4⟩)
      have H2 : Hid (Sat W w1 (sep (osl 117 2 none 0 0 (blkC [])) A)) := Lib.hid (h1.drop.osl_nil 117 2)
      rw [hout]
      clear h h1 hx hw1 hF hZ hFZ hbF hbL hT hout IH ho
      go_enter Tryd.func60, Tryd.ntmps60
      go_upto_region 1 with (fail)
      rw [← HX.out.1, ← HX.out.2]
      go_wp2_with fail
      go_ret
      exact ⟨_, _, rfl, H2.out⟩
    · have hl0 : l ≠ 0 := by
        rintro rfl
        have := bzero (a := a) (b := b) (n := n) (by rw [hbF, hbL]; omega)
        rw [hbF, hbL] at this
        exact hi this
      obtain ⟨l', rfl⟩ : ∃ l', l = l' + 1 := ⟨l - 1, by omega⟩
      have hout : outL a b (l' + 1) n = outL a b l' (2 * n) ++ outL a b l' (2 * n + 1) := outL_halves (by rw [hbF, hbL]; omega) (by rw [hbF, hbL]; exact hi)
      have hlen1 := outL_length a b l' (2 * n)
      have hlen2 := outL_length a b l' (2 * n + 1)
      have hp12 : 2 ^ l' ≤ 2 ^ 12 := Nat.pow_le_pow_right (by omega) (by omega)
      obtain ⟨t1, t2⟩ := inT_half hT
      obtain ⟨Y, hY⟩ : ∃ Y : Int, Y = 2 ^ l' := ⟨_, rfl⟩
      have hZY : Z = 2 * Y := by rw [hZ, hY, Int.pow_succ]; omega
      have hq : Z.tdiv 2 = Y := by rw [Int.tdiv_eq_ediv_of_nonneg (by omega)]; omega
      have hf1 : F = 2 * n * Y := by rw [hF, hY, Int.pow_succ, Int.mul_comm (2 ^ l') 2, ← Int.mul_assoc, Int.mul_comm n 2]
      have hf2 : F + Y = (2 * n + 1) * Y := by rw [Int.add_mul, Int.one_mul, ← hf1]
      have hH1 := (IH l' rfl) (2 * n) t1 h1
      have hH2 := fun w' B (h : Sat W w' B) => (IH l' rfl) (2 * n + 1) t2 h
      rw [← hY, ← hf1] at hH1
      rw [← hY, ← hf2] at hH2
      rw [hout]
      obtain ⟨xs, hxs⟩ : ∃ xs, xs = outL a b l' (2 * n) := ⟨_, rfl⟩
      obtain ⟨ys, hys⟩ : ∃ ys, ys = outL a b l' (2 * n + 1) := ⟨_, rfl⟩
      rw [← hxs] at hH1 hlen1 ⊢
      rw [← hys] at hH2 hlen2 ⊢
      obtain ⟨nx, hnx⟩ : ∃ nx, nx = xs.length := ⟨_, rfl⟩
      obtain ⟨ny, hny⟩ : ∃ ny, ny = ys.length := ⟨_, rfl⟩
      rw [← hnx] at hH1 hlen1
      rw [← hny] at hH2 hlen2
      have hnx4 : nx ≤ 4096 := by omega
      have hny4 : ny ≤ 4096 := by omega
      have hYb : 0 ≤ Y ∧ Y ≤ 4096 := by omega
      have HH1 := Lib.hid hH1
      have HH2 := Lib.hid hH2
      have HN := Lib.hid (And.intro hnx hny)
      have ho3 : a ≤ F → ¬ F + Z - 1 ≤ b := fun h h2 => hi ⟨h, h2⟩
      clear h h1 hx hw1 hF hZ hZY hFZ hbF hbL hT hout IH ho hlen1 hlen2 hp12 hf1 hf2 hH1 hH2 hxs hys hnx hny t1 t2 hi hY
      go_enter Tryd.func60, Tryd.ntmps60
      go_upto_region 1 with (fail)
      rw [← HX.out.1, ← HX.out.2]
      go_upto_region 5 with (fail)
      all_goals
        go_wp2_with fail
        refine HH1.out.mono ?_
        rintro e w2 ⟨a1, k1, rfl, h2⟩
        have HB := Lib.hid (HH2.out w2 _ h2)
        have c0 : w2.cell? ⟨x, 0, none⟩ = some (.int .i64 F) := h2.p1.cell 0
        have c1 : w2.cell? ⟨x, 1, none⟩ = some (.int .i64 Z) := h2.p1.cell 1
        clear HH1 h2
        go_wp2_with fail
        refine HB.out.mono ?_
        rintro e w3 ⟨a2, k2, rfl, h3⟩
        have hsrc := h3.osl_Src
        have hln := h3.swf_of_osl
        have h4 : Sat W w3 (sep (osl 117 2 a1 nx k1 (blkC xs)) (sep (osl 117 2 a2 ny k2 (blkC ys)) (sep (blk x (.cells #[.int .i64 F, .int .i64 Z] 117 (0, 0))) A))) := h3.p1
        have HSRC := Lib.hid (And.intro hsrc (And.intro (show a2 = none → ny = 0 from fun e => by have := hln.2.2 e; have := hln.1; omega) h4))
        clear HB HH2 h3 h4 hsrc hln
        go_wp2_with (at_builtin; refine wpl_append_osl rfl (.tmp 46) (.tmp 59) 114 rfl 117 2 16 (.agg #[.int .i64 0, .int .i64 0]) Tryd.underlying114 infoQBlock rfl rfl HSRC.out.2.2 rfl (blkC ys) (by rw [blkC_len, HN.out.2]) HSRC.out.2.1 HSRC.out.1 (blkC_one ys) (by omega) (by unfold maxLen; omega) ?_)
        intro a5 k5 w5 h5
        have H5 : Hid (Sat W w5 (sep (osl 117 2 a5 (nx + ny) k5 (blkC (xs ++ ys))) A)) := Lib.hid (by
          rw [blkC_append]
          have h6 : Sat W w5 (sep (osl 117 2 a2 ny k2 (blkC ys)) (sep (blk x (.cells #[.int .i64 F, .int .i64 Z] 117 (0, 0))) (sep (osl 117 2 a5 (nx + ny) k5 (blkC xs ++ blkC ys)) A))) := by simpa only [sep_comm, sep_lcomm, sep_assoc] using h5
          exact h6.forget_osl.forget)
        clear HSRC h5
        go_wp2_with fail
        go_ret
        refine ⟨a5, k5, by rw [List.length_append, ← HN.out.1, ← HN.out.2]; rfl, ?_⟩
        rw [List.length_append, ← HN.out.1, ← HN.out.2]
        exact H5.out
theorem qoutside_all {W : World} {a b : Int} (hab : 0 ≤ a ∧ a ≤ b ∧ b ≤ 4095) : ∀ l, QOs W a b l
  | 0 => qoutside_core hab 0 fun l' h => by omega
  | l + 1 => qoutside_core hab (l + 1) fun l' h => by
    obtain rfl : l = l' := by omega
    exact qoutside_all hab l
end Go.Proofs.YtcmjbjlliehdiaaDoor
