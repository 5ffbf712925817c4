/- Package authmap: outside's inner closure, the yield being free to stop. -/
import Derived.Test.YtcmjbjlliehdiaaDoorGAuthmapChecksSQ7
import Derived.Test.YtcmjbjlliehdiaaDoorGAuthmapChecks31
namespace Go.Proofs.YtcmjbjlliehdiaaDoor
open Go.RowKit PA
attribute [local go_sem] Oper.semAt_some
/-- All of ys have been taken; or the yield has stopped behind some of them. -/
def WPost (W : World) (R Z : List (Nat × Int) → Assn) (pre ys : List (Nat × Int)) (B : Assn) (e : Ending) (w' : World) : Prop :=
  (e = .returned (.bool true) ∧ Sat W w' (sep (R (pre ++ ys)) B)) ∨ (e = .returned (.bool false) ∧ ∃ zs rest, zs ++ rest = ys ∧ Sat W w' (sep (Z (pre ++ zs)) B))
set_option maxRecDepth 100000 in
set_option maxHeartbeats 8000000 in
theorem awalkS_out1 {W : World} {A : Assn} (R Z : List (Nat × Int) → Assn) (a b : Int) (lp ba bb yb wb N : Nat) (hY : ∀ m, TakesS Fence.wide m Tryd.prog W lp encB noB N R Z) (l : Nat) (n : Int) (hT : inT l n) (pre : List (Nat × Int)) (w : World) (hlen : pre.length < N) (ho : bLast (l, n) < a) (h0 : Sat W w (sep (R pre) (sep (wenv a b lp ba bb yb wb) A))) :
      CallsIn Fence.wide 5 Tryd.prog 87 #[bkv (l, n), .pointer (some ⟨ba, 0, none⟩), .pointer (some ⟨bb, 0, none⟩), .pointer (some ⟨yb, 0, none⟩), .pointer (some ⟨wb, 0, none⟩)] w fun e w' => WPost W R Z pre ([(l, n)]) (sep (wenv a b lp ba bb yb wb) A) e w' := by
  obtain ⟨x, hx⟩ : ∃ x, x = w.heap.size := ⟨_, rfl⟩
  obtain ⟨w1, hw1⟩ : ∃ w1, w1 = w.alloc (.cells #[.int .i64 (l : Nat), .int .i64 n] 106) := ⟨_, rfl⟩
  have h1 : Sat W w1 (sep (blk x (.cells #[.int .i64 (l : Nat), .int .i64 n] 106 (0, 0))) (sep (R pre) (sep (wenv a b lp ba bb yb wb) A))) := by rw [hw1, hx]; exact h0.alloc _
  have HW := Lib.hid (And.intro hx hw1)
  have HT := Lib.hid hT
  obtain ⟨la, hla⟩ : ∃ la, la = bLast (l, n) := ⟨_, rfl⟩
  obtain ⟨fi, hfi⟩ : ∃ fi, fi = bFirst (l, n) := ⟨_, rfl⟩
  have HLF := Lib.hid (And.intro hla hfi)
  have HY := Lib.hid hY
  have HN := Lib.hid hlen
  have h1I : la < a := by rw [hla]; exact ho
  clear hY hlen ho
  clear hT h0 hx hw1 hla hfi
  unfold bkv
  refine callsIn_of_wp Tryd.func87 rfl trivial ?_ rfl
  simp only [Tryd.ntmps87, List.size_toArray, List.length_cons, List.length_nil, Nat.reduceAdd, Nat.reduceSub, Array.replicate_succ, Array.replicate_zero, List.push_toArray, List.append_toArray, List.nil_append, List.cons_append]
  gi_wp2_with fail
  rw [← HW.out.1, ← HW.out.2]
  refine wpIn_wide.2 ?_
  have hd := h1.drew
  obtain ⟨wd, hwd⟩ : ∃ wd, wd = w1.drew := ⟨_, rfl⟩
  refine wp_region_canon rfl (fun w' => w'.cell? ⟨ba, 0, none⟩ = some (.int .i64 a) ∧ w'.cell? ⟨bb, 0, none⟩ = some (.int .i64 b)) [(0, .t), (2, .s), (1, .e true), (3, .p), (4, .p), (5, .t), (7, .s), (6, .e true), (8, .p), (9, .p)] (by kernel_rfl) ?_
  rw [← hwd] at hd ⊢
  clear hwd h1
  obtain ⟨e0, e1, e2, e3⟩ := wenv_at hd
  have c0 : wd.cell? ⟨x, 0, none⟩ = some (.int .i64 (l : Nat)) := hd.cell 0
  have c1 : wd.cell? ⟨x, 1, none⟩ = some (.int .i64 n) := hd.cell 1
  have hS0 : wd.cell? ⟨ba, 0, none⟩ = some (.int .i64 a) ∧ wd.cell? ⟨bb, 0, none⟩ = some (.int .i64 b) := ⟨e0, e1⟩
  have HC := Lib.hid hd
  clear hd e0 e1 e2 e3
  have hq := alast_spec l n HT.out HC.out
  rw [← HLF.out.1] at hq
  have HQ := Lib.hid hq
  clear hq HC
  (repeat ((first | (refine C_p (v := ?_) rfl rfl (fun w' => ?_) ?_; rotate_left; (go_simp; with_reducible rfl)) | (refine C_s (v := ?_) rfl rfl hS0 (fun w' hS => ?_) ?_; rotate_left; ((try dsimp only at hS); go_simp; with_reducible rfl)) | (refine C_t (v := ?_) rfl rfl ?_ ?_; rotate_left; (go_simp; with_reducible rfl)) | (refine C_po rfl rfl ?_) | (refine C_so rfl rfl hS0 ?_) | (refine C_to rfl rfl ?_)); simp only [Act.put, List.setIfInBounds_toArray, List.set_cons_zero, List.set_cons_succ]))
  (refine C_e rfl rfl (fun K hK => ?_); go_simp)
  refine HQ.out.mono ?_
  rintro e w2 ⟨rfl, h2⟩
  clear HQ hS0 c0 c1
  obtain ⟨e0, e1, e2, e3⟩ := wenv_at h2
  have c0 : w2.cell? ⟨x, 0, none⟩ = some (.int .i64 (l : Nat)) := h2.cell 0
  have c1 : w2.cell? ⟨x, 1, none⟩ = some (.int .i64 n) := h2.cell 1
  have hS0 : w2.cell? ⟨ba, 0, none⟩ = some (.int .i64 a) ∧ w2.cell? ⟨bb, 0, none⟩ = some (.int .i64 b) := ⟨e0, e1⟩
  clear e0 e1 e2 e3
  (refine hK _ _ (fun _ => hS0) ?_; clear hK K; (try simp only [Act.put, List.setIfInBounds_toArray, List.set_cons_zero, List.set_cons_succ]))
  have HC := Lib.hid h2
  (repeat ((first | (refine C_p (v := ?_) rfl rfl (fun w' => ?_) ?_; rotate_left; (go_simp; with_reducible rfl)) | (refine C_s (v := ?_) rfl rfl hS0 (fun w' hS => ?_) ?_; rotate_left; ((try dsimp only at hS); go_simp; with_reducible rfl)) | (refine C_t (v := ?_) rfl rfl ?_ ?_; rotate_left; (go_simp; with_reducible rfl)) | (refine C_po rfl rfl ?_) | (refine C_so rfl rfl hS0 ?_) | (refine C_to rfl rfl ?_)); simp only [Act.put, List.setIfInBounds_toArray, List.set_cons_zero, List.set_cons_succ]))
  (refine C_eo rfl rfl (fun h => by first | (cases h; done) | exact hS0) ?_; simp only [Act.put, List.setIfInBounds_toArray, List.set_cons_zero, List.set_cons_succ])
  (repeat ((first | (refine C_p (v := ?_) rfl rfl (fun w' => ?_) ?_; rotate_left; (go_simp; with_reducible rfl)) | (refine C_s (v := ?_) rfl rfl hS0 (fun w' hS => ?_) ?_; rotate_left; ((try dsimp only at hS); go_simp; with_reducible rfl)) | (refine C_t (v := ?_) rfl rfl ?_ ?_; rotate_left; (go_simp; with_reducible rfl)) | (refine C_po rfl rfl ?_) | (refine C_so rfl rfl hS0 ?_) | (refine C_to rfl rfl ?_)); simp only [Act.put, List.setIfInBounds_toArray, List.set_cons_zero, List.set_cons_succ]))
  clear hS0 HC c0 c1
  refine C_nil ?_
  obtain ⟨e0, e1, e2, e3⟩ := wenv_at h2
  have c0 : w2.cell? ⟨x, 0, none⟩ = some (.int .i64 (l : Nat)) := h2.cell 0
  have c1 : w2.cell? ⟨x, 1, none⟩ = some (.int .i64 n) := h2.cell 1
  have hx : Sat W w2 (sep (R pre) (sep (noB (l, n)) (sep (blk x (.cells #[.int .i64 (l : Nat), .int .i64 n] 106 (0, 0))) (sep (wenv a b lp ba bb yb wb) A)))) := by
    have h' : Sat W w2 (sep (noB (l, n)) (sep (R pre) (sep (blk x (.cells #[.int .i64 (l : Nat), .int .i64 n] 106 (0, 0))) (sep (wenv a b lp ba bb yb wb) A)))) := Sat.fact.2 ⟨HT.out, by have := h2; simpa only [sep_comm, sep_lcomm, sep_assoc] using this⟩
    simpa only [sep_comm, sep_lcomm, sep_assoc] using h'
  obtain ⟨fn, tmps, assign, body, hy, hR⟩ := HY.out 5 pre (l, n) w2 _ HN.out hx
  dsimp only [encB, bkv] at hy
  clear hx h2
  gi_wp2_with fail
  refine (roundIn_any hR).mono ?_
  rintro e wz (⟨rfl, hz⟩ | ⟨rfl, hz⟩)
  · clear hR hy
    gi_wp2_with fail
    refine bodyPost_ret (results_tmp rfl _ _ _) rfl (.inl ⟨rfl, ?_⟩)
    have := (show Sat W wz (sep (blk x (.cells #[.int .i64 (l : Nat), .int .i64 n] 106 (0, 0))) (sep (R (pre ++ [(l, n)])) (sep (wenv a b lp ba bb yb wb) A))) by simpa only [sep_comm, sep_lcomm, sep_assoc] using hz).drop
    exact this
  · clear hR hy
    gi_wp2_with fail
    refine bodyPost_ret (results_tmp rfl _ _ _) rfl (.inr ⟨rfl, [(l, n)], [], rfl, ?_⟩)
    have := (show Sat W wz (sep (blk x (.cells #[.int .i64 (l : Nat), .int .i64 n] 106 (0, 0))) (sep (Z (pre ++ [(l, n)])) (sep (wenv a b lp ba bb yb wb) A))) by simpa only [sep_comm, sep_lcomm, sep_assoc] using hz).drop
    exact this
set_option maxRecDepth 100000 in
set_option maxHeartbeats 8000000 in
theorem awalkS_out2 {W : World} {A : Assn} (R Z : List (Nat × Int) → Assn) (a b : Int) (lp ba bb yb wb N : Nat) (hY : ∀ m, TakesS Fence.wide m Tryd.prog W lp encB noB N R Z) (l : Nat) (n : Int) (hT : inT l n) (pre : List (Nat × Int)) (w : World) (hlen : pre.length < N) (ho1 : ¬ bLast (l, n) < a) (ho : b < bFirst (l, n)) (h0 : Sat W w (sep (R pre) (sep (wenv a b lp ba bb yb wb) A))) :
      CallsIn Fence.wide 5 Tryd.prog 87 #[bkv (l, n), .pointer (some ⟨ba, 0, none⟩), .pointer (some ⟨bb, 0, none⟩), .pointer (some ⟨yb, 0, none⟩), .pointer (some ⟨wb, 0, none⟩)] w fun e w' => WPost W R Z pre ([(l, n)]) (sep (wenv a b lp ba bb yb wb) A) e w' := by
  obtain ⟨x, hx⟩ : ∃ x, x = w.heap.size := ⟨_, rfl⟩
  obtain ⟨w1, hw1⟩ : ∃ w1, w1 = w.alloc (.cells #[.int .i64 (l : Nat), .int .i64 n] 106) := ⟨_, rfl⟩
  have h1 : Sat W w1 (sep (blk x (.cells #[.int .i64 (l : Nat), .int .i64 n] 106 (0, 0))) (sep (R pre) (sep (wenv a b lp ba bb yb wb) A))) := by rw [hw1, hx]; exact h0.alloc _
  have HW := Lib.hid (And.intro hx hw1)
  have HT := Lib.hid hT
  obtain ⟨la, hla⟩ : ∃ la, la = bLast (l, n) := ⟨_, rfl⟩
  obtain ⟨fi, hfi⟩ : ∃ fi, fi = bFirst (l, n) := ⟨_, rfl⟩
  have HLF := Lib.hid (And.intro hla hfi)
  have HY := Lib.hid hY
  have HN := Lib.hid hlen
  have h1I : decide (la < a) = false := by rw [hla]; exact decide_eq_false ho1
  have h2I : decide (b < fi) = true := by rw [hfi]; exact decide_eq_true ho
  clear hY hlen ho ho1
  clear hT h0 hx hw1 hla hfi
  unfold bkv
  refine callsIn_of_wp Tryd.func87 rfl trivial ?_ rfl
  simp only [Tryd.ntmps87, List.size_toArray, List.length_cons, List.length_nil, Nat.reduceAdd, Nat.reduceSub, Array.replicate_succ, Array.replicate_zero, List.push_toArray, List.append_toArray, List.nil_append, List.cons_append]
  gi_wp2_with fail
  rw [← HW.out.1, ← HW.out.2]
  refine wpIn_wide.2 ?_
  have hd := h1.drew
  obtain ⟨wd, hwd⟩ : ∃ wd, wd = w1.drew := ⟨_, rfl⟩
  refine wp_region_canon rfl (fun w' => w'.cell? ⟨ba, 0, none⟩ = some (.int .i64 a) ∧ w'.cell? ⟨bb, 0, none⟩ = some (.int .i64 b)) [(0, .t), (2, .s), (1, .e true), (3, .p), (4, .p), (5, .t), (7, .s), (6, .e true), (8, .p), (9, .p)] (by kernel_rfl) ?_
  rw [← hwd] at hd ⊢
  clear hwd h1
  obtain ⟨e0, e1, e2, e3⟩ := wenv_at hd
  have c0 : wd.cell? ⟨x, 0, none⟩ = some (.int .i64 (l : Nat)) := hd.cell 0
  have c1 : wd.cell? ⟨x, 1, none⟩ = some (.int .i64 n) := hd.cell 1
  have hS0 : wd.cell? ⟨ba, 0, none⟩ = some (.int .i64 a) ∧ wd.cell? ⟨bb, 0, none⟩ = some (.int .i64 b) := ⟨e0, e1⟩
  have HC := Lib.hid hd
  clear hd e0 e1 e2 e3
  have hq := alast_spec l n HT.out HC.out
  rw [← HLF.out.1] at hq
  have HQ := Lib.hid hq
  clear hq HC
  (repeat ((first | (refine C_p (v := ?_) rfl rfl (fun w' => ?_) ?_; rotate_left; (go_simp; with_reducible rfl)) | (refine C_s (v := ?_) rfl rfl hS0 (fun w' hS => ?_) ?_; rotate_left; ((try dsimp only at hS); go_simp; with_reducible rfl)) | (refine C_t (v := ?_) rfl rfl ?_ ?_; rotate_left; (go_simp; with_reducible rfl)) | (refine C_po rfl rfl ?_) | (refine C_so rfl rfl hS0 ?_) | (refine C_to rfl rfl ?_)); simp only [Act.put, List.setIfInBounds_toArray, List.set_cons_zero, List.set_cons_succ]))
  (refine C_e rfl rfl (fun K hK => ?_); go_simp)
  refine HQ.out.mono ?_
  rintro e w2 ⟨rfl, h2⟩
  clear HQ hS0 c0 c1
  obtain ⟨e0, e1, e2, e3⟩ := wenv_at h2
  have c0 : w2.cell? ⟨x, 0, none⟩ = some (.int .i64 (l : Nat)) := h2.cell 0
  have c1 : w2.cell? ⟨x, 1, none⟩ = some (.int .i64 n) := h2.cell 1
  have hS0 : w2.cell? ⟨ba, 0, none⟩ = some (.int .i64 a) ∧ w2.cell? ⟨bb, 0, none⟩ = some (.int .i64 b) := ⟨e0, e1⟩
  clear e0 e1 e2 e3
  (refine hK _ _ (fun _ => hS0) ?_; clear hK K; (try simp only [Act.put, List.setIfInBounds_toArray, List.set_cons_zero, List.set_cons_succ]))
  have HC := Lib.hid h2
  clear h2
  have hq := afirst_spec l n HT.out HC.out
  rw [← HLF.out.2] at hq
  have HQ := Lib.hid hq
  clear hq HC
  (repeat ((first | (refine C_p (v := ?_) rfl rfl (fun w' => ?_) ?_; rotate_left; (go_simp; with_reducible rfl)) | (refine C_s (v := ?_) rfl rfl hS0 (fun w' hS => ?_) ?_; rotate_left; ((try dsimp only at hS); go_simp; with_reducible rfl)) | (refine C_t (v := ?_) rfl rfl ?_ ?_; rotate_left; (go_simp; with_reducible rfl)) | (refine C_po rfl rfl ?_) | (refine C_so rfl rfl hS0 ?_) | (refine C_to rfl rfl ?_)); simp only [Act.put, List.setIfInBounds_toArray, List.set_cons_zero, List.set_cons_succ]))
  (refine C_e rfl rfl (fun K hK => ?_); go_simp)
  refine HQ.out.mono ?_
  rintro e w3 ⟨rfl, h3⟩
  clear HQ hS0 c0 c1
  obtain ⟨e0, e1, e2, e3⟩ := wenv_at h3
  have c0 : w3.cell? ⟨x, 0, none⟩ = some (.int .i64 (l : Nat)) := h3.cell 0
  have c1 : w3.cell? ⟨x, 1, none⟩ = some (.int .i64 n) := h3.cell 1
  have hS0 : w3.cell? ⟨ba, 0, none⟩ = some (.int .i64 a) ∧ w3.cell? ⟨bb, 0, none⟩ = some (.int .i64 b) := ⟨e0, e1⟩
  clear e0 e1 e2 e3
  (refine hK _ _ (fun _ => hS0) ?_; clear hK K; (try simp only [Act.put, List.setIfInBounds_toArray, List.set_cons_zero, List.set_cons_succ]))
  have HC := Lib.hid h3
  (repeat ((first | (refine C_p (v := ?_) rfl rfl (fun w' => ?_) ?_; rotate_left; (go_simp; with_reducible rfl)) | (refine C_s (v := ?_) rfl rfl hS0 (fun w' hS => ?_) ?_; rotate_left; ((try dsimp only at hS); go_simp; with_reducible rfl)) | (refine C_t (v := ?_) rfl rfl ?_ ?_; rotate_left; (go_simp; with_reducible rfl)) | (refine C_po rfl rfl ?_) | (refine C_so rfl rfl hS0 ?_) | (refine C_to rfl rfl ?_)); simp only [Act.put, List.setIfInBounds_toArray, List.set_cons_zero, List.set_cons_succ]))
  clear hS0 HC c0 c1
  refine C_nil ?_
  obtain ⟨e0, e1, e2, e3⟩ := wenv_at h3
  have c0 : w3.cell? ⟨x, 0, none⟩ = some (.int .i64 (l : Nat)) := h3.cell 0
  have c1 : w3.cell? ⟨x, 1, none⟩ = some (.int .i64 n) := h3.cell 1
  have hx : Sat W w3 (sep (R pre) (sep (noB (l, n)) (sep (blk x (.cells #[.int .i64 (l : Nat), .int .i64 n] 106 (0, 0))) (sep (wenv a b lp ba bb yb wb) A)))) := by
    have h' : Sat W w3 (sep (noB (l, n)) (sep (R pre) (sep (blk x (.cells #[.int .i64 (l : Nat), .int .i64 n] 106 (0, 0))) (sep (wenv a b lp ba bb yb wb) A)))) := Sat.fact.2 ⟨HT.out, by have := h3; simpa only [sep_comm, sep_lcomm, sep_assoc] using this⟩
    simpa only [sep_comm, sep_lcomm, sep_assoc] using h'
  obtain ⟨fn, tmps, assign, body, hy, hR⟩ := HY.out 5 pre (l, n) w3 _ HN.out hx
  dsimp only [encB, bkv] at hy
  clear hx h3
  gi_wp2_with fail
  refine (roundIn_any hR).mono ?_
  rintro e wz (⟨rfl, hz⟩ | ⟨rfl, hz⟩)
  · clear hR hy
    gi_wp2_with fail
    refine bodyPost_ret (results_tmp rfl _ _ _) rfl (.inl ⟨rfl, ?_⟩)
    have := (show Sat W wz (sep (blk x (.cells #[.int .i64 (l : Nat), .int .i64 n] 106 (0, 0))) (sep (R (pre ++ [(l, n)])) (sep (wenv a b lp ba bb yb wb) A))) by simpa only [sep_comm, sep_lcomm, sep_assoc] using hz).drop
    exact this
  · clear hR hy
    gi_wp2_with fail
    refine bodyPost_ret (results_tmp rfl _ _ _) rfl (.inr ⟨rfl, [(l, n)], [], rfl, ?_⟩)
    have := (show Sat W wz (sep (blk x (.cells #[.int .i64 (l : Nat), .int .i64 n] 106 (0, 0))) (sep (Z (pre ++ [(l, n)])) (sep (wenv a b lp ba bb yb wb) A))) by simpa only [sep_comm, sep_lcomm, sep_assoc] using hz).drop
    exact this
set_option maxRecDepth 100000 in
set_option maxHeartbeats 8000000 in
theorem awalkS_in {W : World} {A : Assn} (R Z : List (Nat × Int) → Assn) (a b : Int) (lp ba bb yb wb N : Nat) (l : Nat) (n : Int) (hT : inT l n) (pre : List (Nat × Int)) (w : World) (ho1 : ¬ bLast (l, n) < a) (ho2 : ¬ b < bFirst (l, n)) (hi1 : a ≤ bFirst (l, n)) (hi2 : bLast (l, n) ≤ b) (h0 : Sat W w (sep (R pre) (sep (wenv a b lp ba bb yb wb) A))) :
      CallsIn Fence.wide 5 Tryd.prog 87 #[bkv (l, n), .pointer (some ⟨ba, 0, none⟩), .pointer (some ⟨bb, 0, none⟩), .pointer (some ⟨yb, 0, none⟩), .pointer (some ⟨wb, 0, none⟩)] w fun e w' => WPost W R Z pre ([]) (sep (wenv a b lp ba bb yb wb) A) e w' := by
  obtain ⟨x, hx⟩ : ∃ x, x = w.heap.size := ⟨_, rfl⟩
  obtain ⟨w1, hw1⟩ : ∃ w1, w1 = w.alloc (.cells #[.int .i64 (l : Nat), .int .i64 n] 106) := ⟨_, rfl⟩
  have h1 : Sat W w1 (sep (blk x (.cells #[.int .i64 (l : Nat), .int .i64 n] 106 (0, 0))) (sep (R pre) (sep (wenv a b lp ba bb yb wb) A))) := by rw [hw1, hx]; exact h0.alloc _
  have HW := Lib.hid (And.intro hx hw1)
  have HT := Lib.hid hT
  obtain ⟨la, hla⟩ : ∃ la, la = bLast (l, n) := ⟨_, rfl⟩
  obtain ⟨fi, hfi⟩ : ∃ fi, fi = bFirst (l, n) := ⟨_, rfl⟩
  have HLF := Lib.hid (And.intro hla hfi)
  have h1I : decide (la < a) = false := by rw [hla]; exact decide_eq_false ho1
  have h2I : decide (b < fi) = false := by rw [hfi]; exact decide_eq_false ho2
  have h3I : decide (a ≤ fi) = true := by rw [hfi]; exact decide_eq_true hi1
  have h4I : decide (la ≤ b) = true := by rw [hla]; exact decide_eq_true hi2
  clear ho1 ho2 hi1 hi2
  clear hT h0 hx hw1 hla hfi
  unfold bkv
  refine callsIn_of_wp Tryd.func87 rfl trivial ?_ rfl
  simp only [Tryd.ntmps87, List.size_toArray, List.length_cons, List.length_nil, Nat.reduceAdd, Nat.reduceSub, Array.replicate_succ, Array.replicate_zero, List.push_toArray, List.append_toArray, List.nil_append, List.cons_append]
  gi_wp2_with fail
  rw [← HW.out.1, ← HW.out.2]
  refine wpIn_wide.2 ?_
  have hd := h1.drew
  obtain ⟨wd, hwd⟩ : ∃ wd, wd = w1.drew := ⟨_, rfl⟩
  refine wp_region_canon rfl (fun w' => w'.cell? ⟨ba, 0, none⟩ = some (.int .i64 a) ∧ w'.cell? ⟨bb, 0, none⟩ = some (.int .i64 b)) [(0, .t), (2, .s), (1, .e true), (3, .p), (4, .p), (5, .t), (7, .s), (6, .e true), (8, .p), (9, .p)] (by kernel_rfl) ?_
  rw [← hwd] at hd ⊢
  clear hwd h1
  obtain ⟨e0, e1, e2, e3⟩ := wenv_at hd
  have c0 : wd.cell? ⟨x, 0, none⟩ = some (.int .i64 (l : Nat)) := hd.cell 0
  have c1 : wd.cell? ⟨x, 1, none⟩ = some (.int .i64 n) := hd.cell 1
  have hS0 : wd.cell? ⟨ba, 0, none⟩ = some (.int .i64 a) ∧ wd.cell? ⟨bb, 0, none⟩ = some (.int .i64 b) := ⟨e0, e1⟩
  have HC := Lib.hid hd
  clear hd e0 e1 e2 e3
  have hq := alast_spec l n HT.out HC.out
  rw [← HLF.out.1] at hq
  have HQ := Lib.hid hq
  clear hq HC
  (repeat ((first | (refine C_p (v := ?_) rfl rfl (fun w' => ?_) ?_; rotate_left; (go_simp; with_reducible rfl)) | (refine C_s (v := ?_) rfl rfl hS0 (fun w' hS => ?_) ?_; rotate_left; ((try dsimp only at hS); go_simp; with_reducible rfl)) | (refine C_t (v := ?_) rfl rfl ?_ ?_; rotate_left; (go_simp; with_reducible rfl)) | (refine C_po rfl rfl ?_) | (refine C_so rfl rfl hS0 ?_) | (refine C_to rfl rfl ?_)); simp only [Act.put, List.setIfInBounds_toArray, List.set_cons_zero, List.set_cons_succ]))
  (refine C_e rfl rfl (fun K hK => ?_); go_simp)
  refine HQ.out.mono ?_
  rintro e w2 ⟨rfl, h2⟩
  clear HQ hS0 c0 c1
  obtain ⟨e0, e1, e2, e3⟩ := wenv_at h2
  have c0 : w2.cell? ⟨x, 0, none⟩ = some (.int .i64 (l : Nat)) := h2.cell 0
  have c1 : w2.cell? ⟨x, 1, none⟩ = some (.int .i64 n) := h2.cell 1
  have hS0 : w2.cell? ⟨ba, 0, none⟩ = some (.int .i64 a) ∧ w2.cell? ⟨bb, 0, none⟩ = some (.int .i64 b) := ⟨e0, e1⟩
  clear e0 e1 e2 e3
  (refine hK _ _ (fun _ => hS0) ?_; clear hK K; (try simp only [Act.put, List.setIfInBounds_toArray, List.set_cons_zero, List.set_cons_succ]))
  have HC := Lib.hid h2
  clear h2
  have hq := afirst_spec l n HT.out HC.out
  rw [← HLF.out.2] at hq
  have HQ := Lib.hid hq
  clear hq HC
  (repeat ((first | (refine C_p (v := ?_) rfl rfl (fun w' => ?_) ?_; rotate_left; (go_simp; with_reducible rfl)) | (refine C_s (v := ?_) rfl rfl hS0 (fun w' hS => ?_) ?_; rotate_left; ((try dsimp only at hS); go_simp; with_reducible rfl)) | (refine C_t (v := ?_) rfl rfl ?_ ?_; rotate_left; (go_simp; with_reducible rfl)) | (refine C_po rfl rfl ?_) | (refine C_so rfl rfl hS0 ?_) | (refine C_to rfl rfl ?_)); simp only [Act.put, List.setIfInBounds_toArray, List.set_cons_zero, List.set_cons_succ]))
  (refine C_e rfl rfl (fun K hK => ?_); go_simp)
  refine HQ.out.mono ?_
  rintro e w3 ⟨rfl, h3⟩
  clear HQ hS0 c0 c1
  obtain ⟨e0, e1, e2, e3⟩ := wenv_at h3
  have c0 : w3.cell? ⟨x, 0, none⟩ = some (.int .i64 (l : Nat)) := h3.cell 0
  have c1 : w3.cell? ⟨x, 1, none⟩ = some (.int .i64 n) := h3.cell 1
  have hS0 : w3.cell? ⟨ba, 0, none⟩ = some (.int .i64 a) ∧ w3.cell? ⟨bb, 0, none⟩ = some (.int .i64 b) := ⟨e0, e1⟩
  clear e0 e1 e2 e3
  (refine hK _ _ (fun _ => hS0) ?_; clear hK K; (try simp only [Act.put, List.setIfInBounds_toArray, List.set_cons_zero, List.set_cons_succ]))
  have HC := Lib.hid h3
  (repeat ((first | (refine C_p (v := ?_) rfl rfl (fun w' => ?_) ?_; rotate_left; (go_simp; with_reducible rfl)) | (refine C_s (v := ?_) rfl rfl hS0 (fun w' hS => ?_) ?_; rotate_left; ((try dsimp only at hS); go_simp; with_reducible rfl)) | (refine C_t (v := ?_) rfl rfl ?_ ?_; rotate_left; (go_simp; with_reducible rfl)) | (refine C_po rfl rfl ?_) | (refine C_so rfl rfl hS0 ?_) | (refine C_to rfl rfl ?_)); simp only [Act.put, List.setIfInBounds_toArray, List.set_cons_zero, List.set_cons_succ]))
  clear hS0 HC c0 c1
  refine C_nil ?_
  gi_wp2_with fail
  refine wpIn_wide.2 ?_
  have hd := h3.drew
  obtain ⟨we, hwd⟩ : ∃ wd, wd = w3.drew := ⟨_, rfl⟩
  refine wp_region_canon rfl (fun w' => w'.cell? ⟨ba, 0, none⟩ = some (.int .i64 a) ∧ w'.cell? ⟨bb, 0, none⟩ = some (.int .i64 b)) [(0, .t), (2, .s), (1, .e true), (3, .p), (4, .p), (5, .t), (7, .s), (6, .e true), (8, .p), (9, .p)] (by kernel_rfl) ?_
  rw [← hwd] at hd ⊢
  clear hwd h3
  obtain ⟨e0, e1, e2, e3⟩ := wenv_at hd
  have c0 : we.cell? ⟨x, 0, none⟩ = some (.int .i64 (l : Nat)) := hd.cell 0
  have c1 : we.cell? ⟨x, 1, none⟩ = some (.int .i64 n) := hd.cell 1
  have hS0 : we.cell? ⟨ba, 0, none⟩ = some (.int .i64 a) ∧ we.cell? ⟨bb, 0, none⟩ = some (.int .i64 b) := ⟨e0, e1⟩
  have HC := Lib.hid hd
  clear hd e0 e1 e2 e3
  have hq := afirst_spec l n HT.out HC.out
  rw [← HLF.out.2] at hq
  have HQ := Lib.hid hq
  clear hq HC
  (repeat ((first | (refine C_p (v := ?_) rfl rfl (fun w' => ?_) ?_; rotate_left; (go_simp; with_reducible rfl)) | (refine C_s (v := ?_) rfl rfl hS0 (fun w' hS => ?_) ?_; rotate_left; ((try dsimp only at hS); go_simp; with_reducible rfl)) | (refine C_t (v := ?_) rfl rfl ?_ ?_; rotate_left; (go_simp; with_reducible rfl)) | (refine C_po rfl rfl ?_) | (refine C_so rfl rfl hS0 ?_) | (refine C_to rfl rfl ?_)); simp only [Act.put, List.setIfInBounds_toArray, List.set_cons_zero, List.set_cons_succ]))
  (refine C_e rfl rfl (fun K hK => ?_); go_simp)
  refine HQ.out.mono ?_
  rintro e w4 ⟨rfl, h4⟩
  clear HQ hS0 c0 c1
  obtain ⟨e0, e1, e2, e3⟩ := wenv_at h4
  have c0 : w4.cell? ⟨x, 0, none⟩ = some (.int .i64 (l : Nat)) := h4.cell 0
  have c1 : w4.cell? ⟨x, 1, none⟩ = some (.int .i64 n) := h4.cell 1
  have hS0 : w4.cell? ⟨ba, 0, none⟩ = some (.int .i64 a) ∧ w4.cell? ⟨bb, 0, none⟩ = some (.int .i64 b) := ⟨e0, e1⟩
  clear e0 e1 e2 e3
  (refine hK _ _ (fun _ => hS0) ?_; clear hK K; (try simp only [Act.put, List.setIfInBounds_toArray, List.set_cons_zero, List.set_cons_succ]))
  have HC := Lib.hid h4
  clear h4
  have hq := alast_spec l n HT.out HC.out
  rw [← HLF.out.1] at hq
  have HQ := Lib.hid hq
  clear hq HC
  (repeat ((first | (refine C_p (v := ?_) rfl rfl (fun w' => ?_) ?_; rotate_left; (go_simp; with_reducible rfl)) | (refine C_s (v := ?_) rfl rfl hS0 (fun w' hS => ?_) ?_; rotate_left; ((try dsimp only at hS); go_simp; with_reducible rfl)) | (refine C_t (v := ?_) rfl rfl ?_ ?_; rotate_left; (go_simp; with_reducible rfl)) | (refine C_po rfl rfl ?_) | (refine C_so rfl rfl hS0 ?_) | (refine C_to rfl rfl ?_)); simp only [Act.put, List.setIfInBounds_toArray, List.set_cons_zero, List.set_cons_succ]))
  (refine C_e rfl rfl (fun K hK => ?_); go_simp)
  refine HQ.out.mono ?_
  rintro e w5 ⟨rfl, h5⟩
  clear HQ hS0 c0 c1
  obtain ⟨e0, e1, e2, e3⟩ := wenv_at h5
  have c0 : w5.cell? ⟨x, 0, none⟩ = some (.int .i64 (l : Nat)) := h5.cell 0
  have c1 : w5.cell? ⟨x, 1, none⟩ = some (.int .i64 n) := h5.cell 1
  have hS0 : w5.cell? ⟨ba, 0, none⟩ = some (.int .i64 a) ∧ w5.cell? ⟨bb, 0, none⟩ = some (.int .i64 b) := ⟨e0, e1⟩
  clear e0 e1 e2 e3
  (refine hK _ _ (fun _ => hS0) ?_; clear hK K; (try simp only [Act.put, List.setIfInBounds_toArray, List.set_cons_zero, List.set_cons_succ]))
  have HC := Lib.hid h5
  (repeat ((first | (refine C_p (v := ?_) rfl rfl (fun w' => ?_) ?_; rotate_left; (go_simp; with_reducible rfl)) | (refine C_s (v := ?_) rfl rfl hS0 (fun w' hS => ?_) ?_; rotate_left; ((try dsimp only at hS); go_simp; with_reducible rfl)) | (refine C_t (v := ?_) rfl rfl ?_ ?_; rotate_left; (go_simp; with_reducible rfl)) | (refine C_po rfl rfl ?_) | (refine C_so rfl rfl hS0 ?_) | (refine C_to rfl rfl ?_)); simp only [Act.put, List.setIfInBounds_toArray, List.set_cons_zero, List.set_cons_succ]))
  clear hS0 HC c0 c1
  refine C_nil ?_
  gi_wp2_with fail
  refine bodyPost_ret (results_tmp rfl _ _ _) rfl ?_
  refine .inl ⟨rfl, ?_⟩
  rw [List.append_nil]
  exact h5.drop
end Go.Proofs.YtcmjbjlliehdiaaDoor
