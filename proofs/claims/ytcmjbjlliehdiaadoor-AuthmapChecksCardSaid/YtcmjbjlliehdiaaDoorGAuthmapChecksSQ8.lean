/- Package authmap: outside's inner closure, the halves. -/
import Derived.Sort.CutIn
import Derived.Test.YtcmjbjlliehdiaaDoorGAuthmapChecksSQ7
namespace Go.Proofs.YtcmjbjlliehdiaaDoor
open Go.RowKit PA
attribute [local go_sem] Oper.semAt_some
set_option maxRecDepth 100000 in
set_option maxHeartbeats 8000000 in
theorem awalk_half1 {W : World} {A : Assn} (R : List (Nat × Int) → Assn) (a b : Int) (lp ba bb yb wb N : Nat) (l : Nat) (ih : ∀ (A : Assn) (n : Int), inT l n → ∀ (pre : List (Nat × Int)) (w : World), pre.length + (outL a b l n).length ≤ N → Sat W w (sep (R pre) (sep (wenv a b lp ba bb yb wb) A)) → Calls Tryd.prog 87 #[bkv (l, n), .pointer (some ⟨ba, 0, none⟩), .pointer (some ⟨bb, 0, none⟩), .pointer (some ⟨yb, 0, none⟩), .pointer (some ⟨wb, 0, none⟩)] w fun e w' => e = .returned (.bool true) ∧ Sat W w' (sep (R (pre ++ outL a b l n)) (sep (wenv a b lp ba bb yb wb) A))) (n : Int) (hT : inT (l + 1) n) (pre : List (Nat × Int)) (w : World) (hlen : pre.length + (outL a b (l + 1) n).length ≤ N) (ho : ¬ (bLast (l + 1, n) < a ∨ b < bFirst (l + 1, n))) (hi : ¬ (a ≤ bFirst (l + 1, n) ∧ bLast (l + 1, n) ≤ b)) (hi1 : ¬ a ≤ bFirst (l + 1, n)) (h0 : Sat W w (sep (R pre) (sep (wenv a b lp ba bb yb wb) A))) :
      CallsIn Fence.wide 5 Tryd.prog 87 #[bkv (l + 1, n), .pointer (some ⟨ba, 0, none⟩), .pointer (some ⟨bb, 0, none⟩), .pointer (some ⟨yb, 0, none⟩), .pointer (some ⟨wb, 0, none⟩)] w fun e w' => e = .returned (.bool true) ∧ Sat W w' (sep (R (pre ++ outL a b (l + 1) n)) (sep (wenv a b lp ba bb yb wb) A)) := by
  obtain ⟨x, hx⟩ : ∃ x, x = w.heap.size := ⟨_, rfl⟩
  obtain ⟨w1, hw1⟩ : ∃ w1, w1 = w.alloc (.cells #[.int .i64 ((l : Nat) + 1 : Int), .int .i64 n] 106) := ⟨_, rfl⟩
  have h1 : Sat W w1 (sep (blk x (.cells #[.int .i64 ((l : Nat) + 1 : Int), .int .i64 n] 106 (0, 0))) (sep (R pre) (sep (wenv a b lp ba bb yb wb) A))) := by rw [hw1, hx]; exact h0.alloc _
  have HW := Lib.hid (And.intro hx hw1)
  have HT := Lib.hid hT
  obtain ⟨la, hla⟩ : ∃ la, la = bLast (l + 1, n) := ⟨_, rfl⟩
  obtain ⟨fi, hfi⟩ : ∃ fi, fi = bFirst (l + 1, n) := ⟨_, rfl⟩
  have HLF := Lib.hid (And.intro hla hfi)
  have HIH := Lib.hid ih
  have HN := Lib.hid (And.intro hlen (outL_halves (l := l) (n := n) (a := a) (b := b) ho hi))
  clear ih hlen
  have h1I : decide (la < a) = false := by rw [hla]; exact decide_eq_false fun h => ho (.inl h)
  have h2I : decide (b < fi) = false := by rw [hfi]; exact decide_eq_false fun h => ho (.inr h)
  have h3I : decide (a ≤ fi) = false := by rw [hfi]; exact decide_eq_false hi1
  clear ho hi hi1
  clear hT h0 hx hw1 hla hfi
  unfold bkv
  refine callsIn_of_wp Tryd.func87 rfl trivial ?_ rfl
  simp only [Tryd.ntmps87, List.size_toArray, List.length_cons, List.length_nil, Nat.reduceAdd, Nat.reduceSub, Array.replicate_succ, Array.replicate_zero, List.push_toArray, List.append_toArray, List.nil_append, List.cons_append]
  gi_wp2_with fail
  rw [← HW.out.1, ← HW.out.2]
  refine wpIn_wide.2 ?_
  have hd := h1.drew
  obtain ⟨wd, hwd⟩ : ∃ wd, wd = w1.drew := ⟨_, rfl⟩
  refine wp_region_canon rfl (fun w' => w'.cell? ⟨ba, 0, none⟩ = some (.int .i64 a) ∧ w'.cell? ⟨bb, 0, none⟩ = some (.int .i64 b)) [(0, .t), (2, .s), (1, .e true), (3, .p), (4, .p), (5, .t), (7, .s), (6, .e true), (8, .p), (9, .p)] (by kernel_rfl) ?_
  rw [← hwd] at hd ⊢
  clear hwd h1
  obtain ⟨e0, e1, e2, e3⟩ := wenv_at hd
  have c0 : wd.cell? ⟨x, 0, none⟩ = some (.int .i64 ((l : Nat) + 1 : Int)) := hd.cell 0
  have c1 : wd.cell? ⟨x, 1, none⟩ = some (.int .i64 n) := hd.cell 1
  have hS0 : wd.cell? ⟨ba, 0, none⟩ = some (.int .i64 a) ∧ wd.cell? ⟨bb, 0, none⟩ = some (.int .i64 b) := ⟨e0, e1⟩
  have HC := Lib.hid hd
  clear hd e0 e1 e2 e3
  have hq := alast_spec (l + 1) n HT.out HC.out
  rw [← HLF.out.1] at hq
  have HQ := Lib.hid hq
  clear hq HC
  (repeat ((first | (refine C_p (v := ?_) rfl rfl (fun w' => ?_) ?_; rotate_left; (go_simp; with_reducible rfl)) | (refine C_s (v := ?_) rfl rfl hS0 (fun w' hS => ?_) ?_; rotate_left; ((try dsimp only at hS); go_simp; with_reducible rfl)) | (refine C_t (v := ?_) rfl rfl ?_ ?_; rotate_left; (go_simp; with_reducible rfl)) | (refine C_po rfl rfl ?_) | (refine C_so rfl rfl hS0 ?_) | (refine C_to rfl rfl ?_)); simp only [Act.put, List.setIfInBounds_toArray, List.set_cons_zero, List.set_cons_succ]))
  (refine C_e rfl rfl (fun K hK => ?_); go_simp)
  refine HQ.out.mono ?_
  rintro e w2 ⟨rfl, h2⟩
  clear HQ hS0 c0 c1
  obtain ⟨e0, e1, e2, e3⟩ := wenv_at h2
  have c0 : w2.cell? ⟨x, 0, none⟩ = some (.int .i64 ((l : Nat) + 1 : Int)) := h2.cell 0
  have c1 : w2.cell? ⟨x, 1, none⟩ = some (.int .i64 n) := h2.cell 1
  have hS0 : w2.cell? ⟨ba, 0, none⟩ = some (.int .i64 a) ∧ w2.cell? ⟨bb, 0, none⟩ = some (.int .i64 b) := ⟨e0, e1⟩
  clear e0 e1 e2 e3
  (refine hK _ _ (fun _ => hS0) ?_; clear hK K; (try simp only [Act.put, List.setIfInBounds_toArray, List.set_cons_zero, List.set_cons_succ]))
  have HC := Lib.hid h2
  clear h2
  have hq := afirst_spec (l + 1) n HT.out HC.out
  rw [← HLF.out.2] at hq
  have HQ := Lib.hid hq
  clear hq HC
  (repeat ((first | (refine C_p (v := ?_) rfl rfl (fun w' => ?_) ?_; rotate_left; (go_simp; with_reducible rfl)) | (refine C_s (v := ?_) rfl rfl hS0 (fun w' hS => ?_) ?_; rotate_left; ((try dsimp only at hS); go_simp; with_reducible rfl)) | (refine C_t (v := ?_) rfl rfl ?_ ?_; rotate_left; (go_simp; with_reducible rfl)) | (refine C_po rfl rfl ?_) | (refine C_so rfl rfl hS0 ?_) | (refine C_to rfl rfl ?_)); simp only [Act.put, List.setIfInBounds_toArray, List.set_cons_zero, List.set_cons_succ]))
  (refine C_e rfl rfl (fun K hK => ?_); go_simp)
  refine HQ.out.mono ?_
  rintro e w3 ⟨rfl, h3⟩
  clear HQ hS0 c0 c1
  obtain ⟨e0, e1, e2, e3⟩ := wenv_at h3
  have c0 : w3.cell? ⟨x, 0, none⟩ = some (.int .i64 ((l : Nat) + 1 : Int)) := h3.cell 0
  have c1 : w3.cell? ⟨x, 1, none⟩ = some (.int .i64 n) := h3.cell 1
  have hS0 : w3.cell? ⟨ba, 0, none⟩ = some (.int .i64 a) ∧ w3.cell? ⟨bb, 0, none⟩ = some (.int .i64 b) := ⟨e0, e1⟩
  clear e0 e1 e2 e3
  (refine hK _ _ (fun _ => hS0) ?_; clear hK K; (try simp only [Act.put, List.setIfInBounds_toArray, List.set_cons_zero, List.set_cons_succ]))
  have HC := Lib.hid h3
  (repeat ((first | (refine C_p (v := ?_) rfl rfl (fun w' => ?_) ?_; rotate_left; (go_simp; with_reducible rfl)) | (refine C_s (v := ?_) rfl rfl hS0 (fun w' hS => ?_) ?_; rotate_left; ((try dsimp only at hS); go_simp; with_reducible rfl)) | (refine C_t (v := ?_) rfl rfl ?_ ?_; rotate_left; (go_simp; with_reducible rfl)) | (refine C_po rfl rfl ?_) | (refine C_so rfl rfl hS0 ?_) | (refine C_to rfl rfl ?_)); simp only [Act.put, List.setIfInBounds_toArray, List.set_cons_zero, List.set_cons_succ]))
  clear hS0 HC c0 c1
  refine C_nil ?_
  gi_wp2_with fail
  refine wpIn_wide.2 ?_
  have hd := h3.drew
  obtain ⟨we, hwd⟩ : ∃ wd, wd = w3.drew := ⟨_, rfl⟩
  refine wp_region_canon rfl (fun w' => w'.cell? ⟨ba, 0, none⟩ = some (.int .i64 a) ∧ w'.cell? ⟨bb, 0, none⟩ = some (.int .i64 b)) [(0, .t), (2, .s), (1, .e true), (3, .p), (4, .p), (5, .t), (7, .s), (6, .e true), (8, .p), (9, .p)] (by kernel_rfl) ?_
  rw [← hwd] at hd ⊢
  clear hwd h3
  obtain ⟨e0, e1, e2, e3⟩ := wenv_at hd
  have c0 : we.cell? ⟨x, 0, none⟩ = some (.int .i64 ((l : Nat) + 1 : Int)) := hd.cell 0
  have c1 : we.cell? ⟨x, 1, none⟩ = some (.int .i64 n) := hd.cell 1
  have hS0 : we.cell? ⟨ba, 0, none⟩ = some (.int .i64 a) ∧ we.cell? ⟨bb, 0, none⟩ = some (.int .i64 b) := ⟨e0, e1⟩
  have HC := Lib.hid hd
  clear hd e0 e1 e2 e3
  have hq := afirst_spec (l + 1) n HT.out HC.out
  rw [← HLF.out.2] at hq
  have HQ := Lib.hid hq
  clear hq HC
  (repeat ((first | (refine C_p (v := ?_) rfl rfl (fun w' => ?_) ?_; rotate_left; (go_simp; with_reducible rfl)) | (refine C_s (v := ?_) rfl rfl hS0 (fun w' hS => ?_) ?_; rotate_left; ((try dsimp only at hS); go_simp; with_reducible rfl)) | (refine C_t (v := ?_) rfl rfl ?_ ?_; rotate_left; (go_simp; with_reducible rfl)) | (refine C_po rfl rfl ?_) | (refine C_so rfl rfl hS0 ?_) | (refine C_to rfl rfl ?_)); simp only [Act.put, List.setIfInBounds_toArray, List.set_cons_zero, List.set_cons_succ]))
  (refine C_e rfl rfl (fun K hK => ?_); go_simp)
  refine HQ.out.mono ?_
  rintro e w4 ⟨rfl, h4⟩
  clear HQ hS0 c0 c1
  obtain ⟨e0, e1, e2, e3⟩ := wenv_at h4
  have c0 : w4.cell? ⟨x, 0, none⟩ = some (.int .i64 ((l : Nat) + 1 : Int)) := h4.cell 0
  have c1 : w4.cell? ⟨x, 1, none⟩ = some (.int .i64 n) := h4.cell 1
  have hS0 : w4.cell? ⟨ba, 0, none⟩ = some (.int .i64 a) ∧ w4.cell? ⟨bb, 0, none⟩ = some (.int .i64 b) := ⟨e0, e1⟩
  clear e0 e1 e2 e3
  (refine hK _ _ (fun _ => hS0) ?_; clear hK K; (try simp only [Act.put, List.setIfInBounds_toArray, List.set_cons_zero, List.set_cons_succ]))
  have HC := Lib.hid h4
  (repeat ((first | (refine C_p (v := ?_) rfl rfl (fun w' => ?_) ?_; rotate_left; (go_simp; with_reducible rfl)) | (refine C_s (v := ?_) rfl rfl hS0 (fun w' hS => ?_) ?_; rotate_left; ((try dsimp only at hS); go_simp; with_reducible rfl)) | (refine C_t (v := ?_) rfl rfl ?_ ?_; rotate_left; (go_simp; with_reducible rfl)) | (refine C_po rfl rfl ?_) | (refine C_so rfl rfl hS0 ?_) | (refine C_to rfl rfl ?_)); simp only [Act.put, List.setIfInBounds_toArray, List.set_cons_zero, List.set_cons_succ]))
  (refine C_eo rfl rfl (fun h => by first | (cases h; done) | exact hS0) ?_; simp only [Act.put, List.setIfInBounds_toArray, List.set_cons_zero, List.set_cons_succ])
  (repeat ((first | (refine C_p (v := ?_) rfl rfl (fun w' => ?_) ?_; rotate_left; (go_simp; with_reducible rfl)) | (refine C_s (v := ?_) rfl rfl hS0 (fun w' hS => ?_) ?_; rotate_left; ((try dsimp only at hS); go_simp; with_reducible rfl)) | (refine C_t (v := ?_) rfl rfl ?_ ?_; rotate_left; (go_simp; with_reducible rfl)) | (refine C_po rfl rfl ?_) | (refine C_so rfl rfl hS0 ?_) | (refine C_to rfl rfl ?_)); simp only [Act.put, List.setIfInBounds_toArray, List.set_cons_zero, List.set_cons_succ]))
  clear hS0 HC c0 c1
  refine C_nil ?_
  have HHA := Lib.hid (ahalves_spec l n HT.out h4)
  have c0 : w4.cell? ⟨x, 0, none⟩ = some (.int .i64 ((l : Nat) + 1 : Int)) := h4.cell 0
  have c1 : w4.cell? ⟨x, 1, none⟩ = some (.int .i64 n) := h4.cell 1
  clear h4
  gi_wp2_with fail
  refine ⟨trivial, (callsIn_wide.2 HHA.out).mono ?_⟩
  rintro e wa ⟨rfl, ha⟩
  clear HHA c0 c1
  have hb := (ha.alloc (.cells #[.int .i64 (l : Nat), .int .i64 (2 * n)] 106)).alloc (.cells #[.int .i64 (l : Nat), .int .i64 (2 * n + 1)] 106)
  rw [World.size_alloc] at hb
  obtain ⟨y, hy⟩ : ∃ y, y = wa.heap.size := ⟨_, rfl⟩
  obtain ⟨wb', hwb⟩ : ∃ w2, w2 = ((wa.alloc (.cells #[.int .i64 (l : Nat), .int .i64 (2 * n)] 106)).alloc (.cells #[.int .i64 (l : Nat), .int .i64 (2 * n + 1)] 106)) := ⟨_, rfl⟩
  rw [← hwb, ← hy] at hb
  have HY2 := Lib.hid (And.intro hy hwb)
  clear hy hwb ha
  unfold bkv
  have hb2 : Sat W wb' (sep (R pre) (sep (wenv a b lp ba bb yb wb) (sep (blk (y + 1) (.cells #[.int .i64 (l : Nat), .int .i64 (2 * n + 1)] 106 (0, 0))) (sep (blk y (.cells #[.int .i64 (l : Nat), .int .i64 (2 * n)] 106 (0, 0))) (sep (blk x (.cells #[.int .i64 ((l : Nat) + 1 : Int), .int .i64 n] 106 (0, 0))) A))))) := by
    simpa only [sep_comm, sep_lcomm, sep_assoc] using hb
  have hi1 := HIH.out _ (2 * n) (inT_half HT.out).1 pre wb' (by have := HN.out.1; rw [HN.out.2, List.length_append] at this; omega) hb2
  unfold bkv at hi1
  have HI1 := Lib.hid hi1
  obtain ⟨e0, e1, e2, e3⟩ := wenv_at (B := emp) (C := R pre) (by rw [emp_sep]; exact hb2)
  have c0 : wb'.cell? ⟨y, 0, none⟩ = some (.int .i64 (l : Nat)) := hb.p1.cell 0
  have c1 : wb'.cell? ⟨y, 1, none⟩ = some (.int .i64 (2 * n)) := hb.p1.cell 1
  clear hb hb2 hi1
  gi_upto_region 6 with (fail)
  rw [← HY2.out.2, ← HY2.out.1]
  gi_wp2_with fail
  refine ⟨trivial, (callsIn_wide.2 HI1.out).mono ?_⟩
  rintro e wc ⟨rfl, hc⟩
  clear HI1 e0 e1 e2 e3 c0 c1
  have hi2 := HIH.out _ (2 * n + 1) (inT_half HT.out).2 (pre ++ outL a b l (2 * n)) wc (by have := HN.out.1; rw [HN.out.2, List.length_append] at this; rw [List.length_append]; omega) hc
  unfold bkv at hi2
  have HI2 := Lib.hid hi2
  obtain ⟨e0, e1, e2, e3⟩ := wenv_at (B := emp) (C := R (pre ++ outL a b l (2 * n))) (by rw [emp_sep]; exact hc)
  have c0 : wc.cell? ⟨y + 1, 0, none⟩ = some (.int .i64 (l : Nat)) := hc.p2.cell 0
  have c1 : wc.cell? ⟨y + 1, 1, none⟩ = some (.int .i64 (2 * n + 1)) := hc.p2.cell 1
  clear hc hi2
  gi_wp2_with fail
  refine ⟨trivial, (callsIn_wide.2 HI2.out).mono ?_⟩
  rintro e we' ⟨rfl, hf⟩
  clear HI2 e0 e1 e2 e3 c0 c1
  gi_wp2_with fail
  refine bodyPost_ret (results_tmp rfl _ _ _) rfl ?_
  refine ⟨rfl, ?_⟩
  rw [HN.out.2, ← List.append_assoc]
  exact (show Sat W we' (sep (blk (y + 1) (.cells #[.int .i64 (l : Nat), .int .i64 (2 * n + 1)] 106 (0, 0))) (sep (blk y (.cells #[.int .i64 (l : Nat), .int .i64 (2 * n)] 106 (0, 0))) (sep (blk x (.cells #[.int .i64 ((l : Nat) + 1 : Int), .int .i64 n] 106 (0, 0))) _))) by simpa only [sep_comm, sep_lcomm, sep_assoc] using hf).drop.drop.drop
set_option maxRecDepth 100000 in
set_option maxHeartbeats 8000000 in
theorem awalk_half2 {W : World} {A : Assn} (R : List (Nat × Int) → Assn) (a b : Int) (lp ba bb yb wb N : Nat) (l : Nat) (ih : ∀ (A : Assn) (n : Int), inT l n → ∀ (pre : List (Nat × Int)) (w : World), pre.length + (outL a b l n).length ≤ N → Sat W w (sep (R pre) (sep (wenv a b lp ba bb yb wb) A)) → Calls Tryd.prog 87 #[bkv (l, n), .pointer (some ⟨ba, 0, none⟩), .pointer (some ⟨bb, 0, none⟩), .pointer (some ⟨yb, 0, none⟩), .pointer (some ⟨wb, 0, none⟩)] w fun e w' => e = .returned (.bool true) ∧ Sat W w' (sep (R (pre ++ outL a b l n)) (sep (wenv a b lp ba bb yb wb) A))) (n : Int) (hT : inT (l + 1) n) (pre : List (Nat × Int)) (w : World) (hlen : pre.length + (outL a b (l + 1) n).length ≤ N) (ho : ¬ (bLast (l + 1, n) < a ∨ b < bFirst (l + 1, n))) (hi : ¬ (a ≤ bFirst (l + 1, n) ∧ bLast (l + 1, n) ≤ b)) (hi1 : a ≤ bFirst (l + 1, n)) (h0 : Sat W w (sep (R pre) (sep (wenv a b lp ba bb yb wb) A))) :
      CallsIn Fence.wide 5 Tryd.prog 87 #[bkv (l + 1, n), .pointer (some ⟨ba, 0, none⟩), .pointer (some ⟨bb, 0, none⟩), .pointer (some ⟨yb, 0, none⟩), .pointer (some ⟨wb, 0, none⟩)] w fun e w' => e = .returned (.bool true) ∧ Sat W w' (sep (R (pre ++ outL a b (l + 1) n)) (sep (wenv a b lp ba bb yb wb) A)) := by
  obtain ⟨x, hx⟩ : ∃ x, x = w.heap.size := ⟨_, rfl⟩
  obtain ⟨w1, hw1⟩ : ∃ w1, w1 = w.alloc (.cells #[.int .i64 ((l : Nat) + 1 : Int), .int .i64 n] 106) := ⟨_, rfl⟩
  have h1 : Sat W w1 (sep (blk x (.cells #[.int .i64 ((l : Nat) + 1 : Int), .int .i64 n] 106 (0, 0))) (sep (R pre) (sep (wenv a b lp ba bb yb wb) A))) := by rw [hw1, hx]; exact h0.alloc _
  have HW := Lib.hid (And.intro hx hw1)
  have HT := Lib.hid hT
  obtain ⟨la, hla⟩ : ∃ la, la = bLast (l + 1, n) := ⟨_, rfl⟩
  obtain ⟨fi, hfi⟩ : ∃ fi, fi = bFirst (l + 1, n) := ⟨_, rfl⟩
  have HLF := Lib.hid (And.intro hla hfi)
  have HIH := Lib.hid ih
  have HN := Lib.hid (And.intro hlen (outL_halves (l := l) (n := n) (a := a) (b := b) ho hi))
  clear ih hlen
  have h1I : decide (la < a) = false := by rw [hla]; exact decide_eq_false fun h => ho (.inl h)
  have h2I : decide (b < fi) = false := by rw [hfi]; exact decide_eq_false fun h => ho (.inr h)
  have h3I : decide (a ≤ fi) = true := by rw [hfi]; exact decide_eq_true hi1
  have h4I : decide (la ≤ b) = false := by rw [hla]; exact decide_eq_false fun h => hi ⟨hi1, h⟩
  clear ho hi hi1
  clear hT h0 hx hw1 hla hfi
  unfold bkv
  refine callsIn_of_wp Tryd.func87 rfl trivial ?_ rfl
  simp only [Tryd.ntmps87, List.size_toArray, List.length_cons, List.length_nil, Nat.reduceAdd, Nat.reduceSub, Array.replicate_succ, Array.replicate_zero, List.push_toArray, List.append_toArray, List.nil_append, List.cons_append]
  gi_wp2_with fail
  rw [← HW.out.1, ← HW.out.2]
  refine wpIn_wide.2 ?_
  have hd := h1.drew
  obtain ⟨wd, hwd⟩ : ∃ wd, wd = w1.drew := ⟨_, rfl⟩
  refine wp_region_canon rfl (fun w' => w'.cell? ⟨ba, 0, none⟩ = some (.int .i64 a) ∧ w'.cell? ⟨bb, 0, none⟩ = some (.int .i64 b)) [(0, .t), (2, .s), (1, .e true), (3, .p), (4, .p), (5, .t), (7, .s), (6, .e true), (8, .p), (9, .p)] (by kernel_rfl) ?_
  rw [← hwd] at hd ⊢
  clear hwd h1
  obtain ⟨e0, e1, e2, e3⟩ := wenv_at hd
  have c0 : wd.cell? ⟨x, 0, none⟩ = some (.int .i64 ((l : Nat) + 1 : Int)) := hd.cell 0
  have c1 : wd.cell? ⟨x, 1, none⟩ = some (.int .i64 n) := hd.cell 1
  have hS0 : wd.cell? ⟨ba, 0, none⟩ = some (.int .i64 a) ∧ wd.cell? ⟨bb, 0, none⟩ = some (.int .i64 b) := ⟨e0, e1⟩
  have HC := Lib.hid hd
  clear hd e0 e1 e2 e3
  have hq := alast_spec (l + 1) n HT.out HC.out
  rw [← HLF.out.1] at hq
  have HQ := Lib.hid hq
  clear hq HC
  (repeat ((first | (refine C_p (v := ?_) rfl rfl (fun w' => ?_) ?_; rotate_left; (go_simp; with_reducible rfl)) | (refine C_s (v := ?_) rfl rfl hS0 (fun w' hS => ?_) ?_; rotate_left; ((try dsimp only at hS); go_simp; with_reducible rfl)) | (refine C_t (v := ?_) rfl rfl ?_ ?_; rotate_left; (go_simp; with_reducible rfl)) | (refine C_po rfl rfl ?_) | (refine C_so rfl rfl hS0 ?_) | (refine C_to rfl rfl ?_)); simp only [Act.put, List.setIfInBounds_toArray, List.set_cons_zero, List.set_cons_succ]))
  (refine C_e rfl rfl (fun K hK => ?_); go_simp)
  refine HQ.out.mono ?_
  rintro e w2 ⟨rfl, h2⟩
  clear HQ hS0 c0 c1
  obtain ⟨e0, e1, e2, e3⟩ := wenv_at h2
  have c0 : w2.cell? ⟨x, 0, none⟩ = some (.int .i64 ((l : Nat) + 1 : Int)) := h2.cell 0
  have c1 : w2.cell? ⟨x, 1, none⟩ = some (.int .i64 n) := h2.cell 1
  have hS0 : w2.cell? ⟨ba, 0, none⟩ = some (.int .i64 a) ∧ w2.cell? ⟨bb, 0, none⟩ = some (.int .i64 b) := ⟨e0, e1⟩
  clear e0 e1 e2 e3
  (refine hK _ _ (fun _ => hS0) ?_; clear hK K; (try simp only [Act.put, List.setIfInBounds_toArray, List.set_cons_zero, List.set_cons_succ]))
  have HC := Lib.hid h2
  clear h2
  have hq := afirst_spec (l + 1) n HT.out HC.out
  rw [← HLF.out.2] at hq
  have HQ := Lib.hid hq
  clear hq HC
  (repeat ((first | (refine C_p (v := ?_) rfl rfl (fun w' => ?_) ?_; rotate_left; (go_simp; with_reducible rfl)) | (refine C_s (v := ?_) rfl rfl hS0 (fun w' hS => ?_) ?_; rotate_left; ((try dsimp only at hS); go_simp; with_reducible rfl)) | (refine C_t (v := ?_) rfl rfl ?_ ?_; rotate_left; (go_simp; with_reducible rfl)) | (refine C_po rfl rfl ?_) | (refine C_so rfl rfl hS0 ?_) | (refine C_to rfl rfl ?_)); simp only [Act.put, List.setIfInBounds_toArray, List.set_cons_zero, List.set_cons_succ]))
  (refine C_e rfl rfl (fun K hK => ?_); go_simp)
  refine HQ.out.mono ?_
  rintro e w3 ⟨rfl, h3⟩
  clear HQ hS0 c0 c1
  obtain ⟨e0, e1, e2, e3⟩ := wenv_at h3
  have c0 : w3.cell? ⟨x, 0, none⟩ = some (.int .i64 ((l : Nat) + 1 : Int)) := h3.cell 0
  have c1 : w3.cell? ⟨x, 1, none⟩ = some (.int .i64 n) := h3.cell 1
  have hS0 : w3.cell? ⟨ba, 0, none⟩ = some (.int .i64 a) ∧ w3.cell? ⟨bb, 0, none⟩ = some (.int .i64 b) := ⟨e0, e1⟩
  clear e0 e1 e2 e3
  (refine hK _ _ (fun _ => hS0) ?_; clear hK K; (try simp only [Act.put, List.setIfInBounds_toArray, List.set_cons_zero, List.set_cons_succ]))
  have HC := Lib.hid h3
  (repeat ((first | (refine C_p (v := ?_) rfl rfl (fun w' => ?_) ?_; rotate_left; (go_simp; with_reducible rfl)) | (refine C_s (v := ?_) rfl rfl hS0 (fun w' hS => ?_) ?_; rotate_left; ((try dsimp only at hS); go_simp; with_reducible rfl)) | (refine C_t (v := ?_) rfl rfl ?_ ?_; rotate_left; (go_simp; with_reducible rfl)) | (refine C_po rfl rfl ?_) | (refine C_so rfl rfl hS0 ?_) | (refine C_to rfl rfl ?_)); simp only [Act.put, List.setIfInBounds_toArray, List.set_cons_zero, List.set_cons_succ]))
  clear hS0 HC c0 c1
  refine C_nil ?_
  gi_wp2_with fail
  refine wpIn_wide.2 ?_
  have hd := h3.drew
  obtain ⟨we, hwd⟩ : ∃ wd, wd = w3.drew := ⟨_, rfl⟩
  refine wp_region_canon rfl (fun w' => w'.cell? ⟨ba, 0, none⟩ = some (.int .i64 a) ∧ w'.cell? ⟨bb, 0, none⟩ = some (.int .i64 b)) [(0, .t), (2, .s), (1, .e true), (3, .p), (4, .p), (5, .t), (7, .s), (6, .e true), (8, .p), (9, .p)] (by kernel_rfl) ?_
  rw [← hwd] at hd ⊢
  clear hwd h3
  obtain ⟨e0, e1, e2, e3⟩ := wenv_at hd
  have c0 : we.cell? ⟨x, 0, none⟩ = some (.int .i64 ((l : Nat) + 1 : Int)) := hd.cell 0
  have c1 : we.cell? ⟨x, 1, none⟩ = some (.int .i64 n) := hd.cell 1
  have hS0 : we.cell? ⟨ba, 0, none⟩ = some (.int .i64 a) ∧ we.cell? ⟨bb, 0, none⟩ = some (.int .i64 b) := ⟨e0, e1⟩
  have HC := Lib.hid hd
  clear hd e0 e1 e2 e3
  have hq := afirst_spec (l + 1) n HT.out HC.out
  rw [← HLF.out.2] at hq
  have HQ := Lib.hid hq
  clear hq HC
  (repeat ((first | (refine C_p (v := ?_) rfl rfl (fun w' => ?_) ?_; rotate_left; (go_simp; with_reducible rfl)) | (refine C_s (v := ?_) rfl rfl hS0 (fun w' hS => ?_) ?_; rotate_left; ((try dsimp only at hS); go_simp; with_reducible rfl)) | (refine C_t (v := ?_) rfl rfl ?_ ?_; rotate_left; (go_simp; with_reducible rfl)) | (refine C_po rfl rfl ?_) | (refine C_so rfl rfl hS0 ?_) | (refine C_to rfl rfl ?_)); simp only [Act.put, List.setIfInBounds_toArray, List.set_cons_zero, List.set_cons_succ]))
  (refine C_e rfl rfl (fun K hK => ?_); go_simp)
  refine HQ.out.mono ?_
  rintro e w4 ⟨rfl, h4⟩
  clear HQ hS0 c0 c1
  obtain ⟨e0, e1, e2, e3⟩ := wenv_at h4
  have c0 : w4.cell? ⟨x, 0, none⟩ = some (.int .i64 ((l : Nat) + 1 : Int)) := h4.cell 0
  have c1 : w4.cell? ⟨x, 1, none⟩ = some (.int .i64 n) := h4.cell 1
  have hS0 : w4.cell? ⟨ba, 0, none⟩ = some (.int .i64 a) ∧ w4.cell? ⟨bb, 0, none⟩ = some (.int .i64 b) := ⟨e0, e1⟩
  clear e0 e1 e2 e3
  (refine hK _ _ (fun _ => hS0) ?_; clear hK K; (try simp only [Act.put, List.setIfInBounds_toArray, List.set_cons_zero, List.set_cons_succ]))
  have HC := Lib.hid h4
  clear h4
  have hq := alast_spec (l + 1) n HT.out HC.out
  rw [← HLF.out.1] at hq
  have HQ := Lib.hid hq
  clear hq HC
  (repeat ((first | (refine C_p (v := ?_) rfl rfl (fun w' => ?_) ?_; rotate_left; (go_simp; with_reducible rfl)) | (refine C_s (v := ?_) rfl rfl hS0 (fun w' hS => ?_) ?_; rotate_left; ((try dsimp only at hS); go_simp; with_reducible rfl)) | (refine C_t (v := ?_) rfl rfl ?_ ?_; rotate_left; (go_simp; with_reducible rfl)) | (refine C_po rfl rfl ?_) | (refine C_so rfl rfl hS0 ?_) | (refine C_to rfl rfl ?_)); simp only [Act.put, List.setIfInBounds_toArray, List.set_cons_zero, List.set_cons_succ]))
  (refine C_e rfl rfl (fun K hK => ?_); go_simp)
  refine HQ.out.mono ?_
  rintro e w5 ⟨rfl, h5⟩
  clear HQ hS0 c0 c1
  obtain ⟨e0, e1, e2, e3⟩ := wenv_at h5
  have c0 : w5.cell? ⟨x, 0, none⟩ = some (.int .i64 ((l : Nat) + 1 : Int)) := h5.cell 0
  have c1 : w5.cell? ⟨x, 1, none⟩ = some (.int .i64 n) := h5.cell 1
  have hS0 : w5.cell? ⟨ba, 0, none⟩ = some (.int .i64 a) ∧ w5.cell? ⟨bb, 0, none⟩ = some (.int .i64 b) := ⟨e0, e1⟩
  clear e0 e1 e2 e3
  (refine hK _ _ (fun _ => hS0) ?_; clear hK K; (try simp only [Act.put, List.setIfInBounds_toArray, List.set_cons_zero, List.set_cons_succ]))
  have HC := Lib.hid h5
  (repeat ((first | (refine C_p (v := ?_) rfl rfl (fun w' => ?_) ?_; rotate_left; (go_simp; with_reducible rfl)) | (refine C_s (v := ?_) rfl rfl hS0 (fun w' hS => ?_) ?_; rotate_left; ((try dsimp only at hS); go_simp; with_reducible rfl)) | (refine C_t (v := ?_) rfl rfl ?_ ?_; rotate_left; (go_simp; with_reducible rfl)) | (refine C_po rfl rfl ?_) | (refine C_so rfl rfl hS0 ?_) | (refine C_to rfl rfl ?_)); simp only [Act.put, List.setIfInBounds_toArray, List.set_cons_zero, List.set_cons_succ]))
  clear hS0 HC c0 c1
  refine C_nil ?_
  have HHA := Lib.hid (ahalves_spec l n HT.out h5)
  have c0 : w5.cell? ⟨x, 0, none⟩ = some (.int .i64 ((l : Nat) + 1 : Int)) := h5.cell 0
  have c1 : w5.cell? ⟨x, 1, none⟩ = some (.int .i64 n) := h5.cell 1
  clear h5
  gi_wp2_with fail
  refine ⟨trivial, (callsIn_wide.2 HHA.out).mono ?_⟩
  rintro e wa ⟨rfl, ha⟩
  clear HHA c0 c1
  have hb := (ha.alloc (.cells #[.int .i64 (l : Nat), .int .i64 (2 * n)] 106)).alloc (.cells #[.int .i64 (l : Nat), .int .i64 (2 * n + 1)] 106)
  rw [World.size_alloc] at hb
  obtain ⟨y, hy⟩ : ∃ y, y = wa.heap.size := ⟨_, rfl⟩
  obtain ⟨wb', hwb⟩ : ∃ w2, w2 = ((wa.alloc (.cells #[.int .i64 (l : Nat), .int .i64 (2 * n)] 106)).alloc (.cells #[.int .i64 (l : Nat), .int .i64 (2 * n + 1)] 106)) := ⟨_, rfl⟩
  rw [← hwb, ← hy] at hb
  have HY2 := Lib.hid (And.intro hy hwb)
  clear hy hwb ha
  unfold bkv
  have hb2 : Sat W wb' (sep (R pre) (sep (wenv a b lp ba bb yb wb) (sep (blk (y + 1) (.cells #[.int .i64 (l : Nat), .int .i64 (2 * n + 1)] 106 (0, 0))) (sep (blk y (.cells #[.int .i64 (l : Nat), .int .i64 (2 * n)] 106 (0, 0))) (sep (blk x (.cells #[.int .i64 ((l : Nat) + 1 : Int), .int .i64 n] 106 (0, 0))) A))))) := by
    simpa only [sep_comm, sep_lcomm, sep_assoc] using hb
  have hi1 := HIH.out _ (2 * n) (inT_half HT.out).1 pre wb' (by have := HN.out.1; rw [HN.out.2, List.length_append] at this; omega) hb2
  unfold bkv at hi1
  have HI1 := Lib.hid hi1
  obtain ⟨e0, e1, e2, e3⟩ := wenv_at (B := emp) (C := R pre) (by rw [emp_sep]; exact hb2)
  have c0 : wb'.cell? ⟨y, 0, none⟩ = some (.int .i64 (l : Nat)) := hb.p1.cell 0
  have c1 : wb'.cell? ⟨y, 1, none⟩ = some (.int .i64 (2 * n)) := hb.p1.cell 1
  clear hb hb2 hi1
  gi_upto_region 6 with (fail)
  rw [← HY2.out.2, ← HY2.out.1]
  gi_wp2_with fail
  refine ⟨trivial, (callsIn_wide.2 HI1.out).mono ?_⟩
  rintro e wc ⟨rfl, hc⟩
  clear HI1 e0 e1 e2 e3 c0 c1
  have hi2 := HIH.out _ (2 * n + 1) (inT_half HT.out).2 (pre ++ outL a b l (2 * n)) wc (by have := HN.out.1; rw [HN.out.2, List.length_append] at this; rw [List.length_append]; omega) hc
  unfold bkv at hi2
  have HI2 := Lib.hid hi2
  obtain ⟨e0, e1, e2, e3⟩ := wenv_at (B := emp) (C := R (pre ++ outL a b l (2 * n))) (by rw [emp_sep]; exact hc)
  have c0 : wc.cell? ⟨y + 1, 0, none⟩ = some (.int .i64 (l : Nat)) := hc.p2.cell 0
  have c1 : wc.cell? ⟨y + 1, 1, none⟩ = some (.int .i64 (2 * n + 1)) := hc.p2.cell 1
  clear hc hi2
  gi_wp2_with fail
  refine ⟨trivial, (callsIn_wide.2 HI2.out).mono ?_⟩
  rintro e we' ⟨rfl, hf⟩
  clear HI2 e0 e1 e2 e3 c0 c1
  gi_wp2_with fail
  refine bodyPost_ret (results_tmp rfl _ _ _) rfl ?_
  refine ⟨rfl, ?_⟩
  rw [HN.out.2, ← List.append_assoc]
  exact (show Sat W we' (sep (blk (y + 1) (.cells #[.int .i64 (l : Nat), .int .i64 (2 * n + 1)] 106 (0, 0))) (sep (blk y (.cells #[.int .i64 (l : Nat), .int .i64 (2 * n)] 106 (0, 0))) (sep (blk x (.cells #[.int .i64 ((l : Nat) + 1 : Int), .int .i64 n] 106 (0, 0))) _))) by simpa only [sep_comm, sep_lcomm, sep_assoc] using hf).drop.drop.drop
end Go.Proofs.YtcmjbjlliehdiaaDoor
