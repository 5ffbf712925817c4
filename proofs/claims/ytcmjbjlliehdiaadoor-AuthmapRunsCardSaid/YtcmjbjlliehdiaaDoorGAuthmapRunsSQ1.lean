/- Package authmap: blocks (first, last, halves), isKey, isRange, join, leaf. -/
import Derived.Test.YtcmjbjlliehdiaaDoorQp
import Derived.Test.YtcmjbjlliehdiaaDoorGAuthmapRuns14
import Derived.Deep.DeepCutAuto
import Derived.Deep.CutBlock
namespace Go.Proofs.YtcmjbjlliehdiaaDoor
open Go.RowKit PA
theorem wrap64_eq {x y : Int} (h : x = y) (h1 : -9223372036854775808 ≤ y) (h2 : y ≤ 9223372036854775807) : wrap64 x = y := by
  subst h
  unfold wrap64
  rw [Int.emod_eq_of_lt (by omega) (by omega)]; omega
theorem int_ret {a b : Int} (h : a = b) : Ending.returned (.int .i64 a) = Ending.returned (.int .i64 b) := by rw [h]
set_option maxHeartbeats 1000000 in
theorem afirst_spec {W w : World} {A : Assn} (l : Nat) (n : Int) (ht : inT l n) (h : Sat W w A) :
    Calls Tryd.prog 88 #[.agg #[.int .i64 (l : Nat), .int .i64 n]] w fun e w' => e = .returned (.int .i64 (bFirst (l, n))) ∧ Sat W w' A := by
  have hb := inT_bounds ht
  have hl : l ≤ 12 := hb.1
  have h1 := h.alloc0 (.cells #[.int .i64 (l : Nat), .int .i64 n] 106)
  have H1 := Lib.hid (And.intro h1 hb)
  clear h1 h ht hb
  go_enter Tryd.func88, Tryd.ntmps88
  go_wp2
  go_ret
  refine ⟨int_ret ?_, H1.out.1⟩
  have hb := H1.out.2
  exact wrap64_eq rfl (by omega) (by omega)
set_option maxHeartbeats 1000000 in
theorem alast_spec {W w : World} {A : Assn} (l : Nat) (n : Int) (ht : inT l n) (h : Sat W w A) :
    Calls Tryd.prog 55 #[.agg #[.int .i64 (l : Nat), .int .i64 n]] w fun e w' => e = .returned (.int .i64 (bLast (l, n))) ∧ Sat W w' A := by
  have hb := inT_bounds ht
  have hl : l ≤ 12 := hb.1
  have hn : 0 ≤ n ∧ n ≤ 4095 := ⟨hb.2.1, hb.2.2.1⟩
  have h1 := h.alloc0 (.cells #[.int .i64 (l : Nat), .int .i64 n] 106)
  have H1 := Lib.hid (And.intro h1 hb)
  clear h1 h ht hb
  go_enter Tryd.func55, Tryd.ntmps55
  go_wp2
  go_ret
  refine ⟨int_ret ?_, H1.out.1⟩
  have hb := H1.out.2
  have e : bLast (l, n) = (n + 1) * 2 ^ l - 1 := rfl
  rw [wrap64_eq (x := (n + 1) * 2 ^ l) rfl (by omega) (by omega)]
  exact wrap64_eq rfl (by omega) (by omega)
set_option maxHeartbeats 2000000 in
theorem ahalves_spec {W w : World} {A : Assn} (l : Nat) (n : Int) (ht : inT (l + 1) n) (h : Sat W w A) :
    Calls Tryd.prog 77 #[.agg #[.int .i64 ((l : Nat) + 1 : Int), .int .i64 n]] w fun e w' => e = .returned (.tuple #[bkv (l, 2 * n), bkv (l, 2 * n + 1)]) ∧ Sat W w' A := by
  have hb := inT_bounds ht
  have hl : l ≤ 11 := by omega
  have hn : 0 ≤ n ∧ n ≤ 4095 := ⟨hb.2.1, hb.2.2.1⟩
  obtain ⟨x, hx⟩ : ∃ x, x = w.heap.size := ⟨_, rfl⟩
  obtain ⟨w3, hw3⟩ : ∃ w3, w3 = ((w.alloc (.cells #[.int .i64 ((l : Nat) + 1 : Int), .int .i64 n] 106)).alloc (.cells #[.int .i64 0, .int .i64 0] 106)).alloc (.cells #[.int .i64 0, .int .i64 0] 106) := ⟨_, rfl⟩
  have h3 : Sat W w3 (sep (blk x (.cells #[.int .i64 ((l : Nat) + 1 : Int), .int .i64 n] 106 (0, 0))) (sep (blk (x + 1) (.cells #[.int .i64 0, .int .i64 0] 106 (0, 0))) (sep (blk (x + 1 + 1) (.cells #[.int .i64 0, .int .i64 0] 106 (0, 0))) A))) := by
    have h1 := ((h.alloc (.cells #[.int .i64 ((l : Nat) + 1 : Int), .int .i64 n] 106)).alloc (.cells #[.int .i64 0, .int .i64 0] 106)).alloc (.cells #[.int .i64 0, .int .i64 0] 106)
    simp only [World.size_alloc] at h1
    rw [← hw3, ← hx] at h1
    simpa only [sep_comm, sep_lcomm, sep_assoc] using h1
  have HW := Lib.hid (And.intro hx hw3)
  clear h ht hb hx hw3
  go_enter Tryd.func77, Tryd.ntmps77
  go_upto_region 1 with (fail)
  rw [← HW.out.1, ← HW.out.2]
  have c0 : w3.cell? ⟨x, 0, none⟩ = some (.int .i64 ((l : Nat) + 1 : Int)) := h3.cell 0
  have c1 : w3.cell? ⟨x, 1, none⟩ = some (.int .i64 n) := h3.cell 1
  have hd := h3.drew
  have hwl : IntKind.i64.wrap ((l : Nat) : Int) = (l : Nat) := IntWalk.i64_in _ (by omega)
  have hwn : IntKind.i64.wrap (2 * n) = 2 * n := IntWalk.i64_in _ (by omega)
  have hwn1 : IntKind.i64.wrap (2 * n + 1) = 2 * n + 1 := IntWalk.i64_in _ (by omega)
  have hS0 : w3.drew.cell? ⟨x, 0, none⟩ = some (.int .i64 ((l : Nat) + 1 : Int)) ∧ w3.drew.cell? ⟨x, 1, none⟩ = some (.int .i64 n) := ⟨hd.cell 0, hd.cell 1⟩
  clear h3
  refine wp_region_canon rfl (fun w' => w'.cell? ⟨x, 0, none⟩ = some (.int .i64 ((l : Nat) + 1 : Int)) ∧ w'.cell? ⟨x, 1, none⟩ = some (.int .i64 n)) [(0, .p), (1, .t), (2, .p), (3, .p), (4, .t), (5, .p), (6, .p), (7, .p), (8, .s), (9, .p), (10, .p), (11, .s), (12, .p), (13, .p), (14, .p), (15, .e true), (16, .e false)] (by kernel_rfl) ?_
  obtain ⟨wd, hwd⟩ : ∃ wd, wd = w3.drew := ⟨_, rfl⟩
  rw [← hwd] at hS0 hd ⊢
  clear hwd c0 c1
  obtain ⟨d0, d1⟩ := hS0
  have hS0 : wd.cell? ⟨x, 0, none⟩ = some (.int .i64 ((l : Nat) + 1 : Int)) ∧ wd.cell? ⟨x, 1, none⟩ = some (.int .i64 n) := ⟨d0, d1⟩
  (repeat (first | (refine C_p (v := ?_) rfl rfl (fun w' => ?_) ?_; rotate_left; (go_simp; with_reducible rfl); simp only [Act.put, List.setIfInBounds_toArray, List.set_cons_zero, List.set_cons_succ]) | (refine C_s (v := ?_) rfl rfl hS0 (fun w' hS => ?_) ?_; rotate_left; ((try dsimp only at hS); go_simp; with_reducible rfl); simp only [Act.put, List.setIfInBounds_toArray, List.set_cons_zero, List.set_cons_succ]) | (refine C_t (v := ?_) rfl rfl ?_ ?_; rotate_left; (go_simp; with_reducible rfl); simp only [Act.put, List.setIfInBounds_toArray, List.set_cons_zero, List.set_cons_succ]) | (refine C_po rfl rfl ?_; simp only [Act.put, List.setIfInBounds_toArray, List.set_cons_zero, List.set_cons_succ]) | (refine C_so rfl rfl hS0 ?_; simp only [Act.put, List.setIfInBounds_toArray, List.set_cons_zero, List.set_cons_succ]) | (refine C_to rfl rfl ?_; simp only [Act.put, List.setIfInBounds_toArray, List.set_cons_zero, List.set_cons_succ])))
  have h5 : Sat W ((wd.setCell ⟨x + 1, 0, none⟩ (.int .i64 (l : Nat))).setCell ⟨x + 1, 1, none⟩ (.int .i64 (2 * n))) (sep (blk (x + 1) (.cells #[.int .i64 (l : Nat), .int .i64 (2 * n)] 106 (0, 0))) (sep (blk x (.cells #[.int .i64 ((l : Nat) + 1 : Int), .int .i64 n] 106 (0, 0))) (sep (blk (x + 1 + 1) (.cells #[.int .i64 0, .int .i64 0] 106 (0, 0))) A))) := (hd.p1.setCell 0 _).setCell 1 _
  have s0 : wd.cell? ⟨x + 1, 0, none⟩ = some (.int .i64 0) := hd.p1.cell 0
  have s1 : wd.cell? ⟨x + 1, 1, none⟩ = some (.int .i64 0) := hd.p1.cell 1
  have v0 : wd.frozen? ⟨x + 1, 0, none⟩ = false := hd.p1.unfrozen 0
  have v1 : wd.frozen? ⟨x + 1, 1, none⟩ = false := hd.p1.unfrozen 1
  (refine C_e rfl rfl (fun K hK => ?_); go_simp)
  obtain ⟨w5, hw5⟩ : ∃ w5, w5 = (wd.setCell ⟨x + 1, 0, none⟩ (.int .i64 (l : Nat))).setCell ⟨x + 1, 1, none⟩ (.int .i64 (2 * n)) := ⟨_, rfl⟩
  rw [← hw5] at h5 ⊢
  have d0' : w5.cell? ⟨x, 0, none⟩ = some (.int .i64 ((l : Nat) + 1 : Int)) := h5.p1.cell 0
  have d1' : w5.cell? ⟨x, 1, none⟩ = some (.int .i64 n) := h5.p1.cell 1
  clear hd d0 d1 s0 s1 v0 v1 hS0 hw5
  (refine hK _ _ (fun _ => ⟨d0', d1'⟩) ?_; clear hK K; (try simp only [Act.put, List.setIfInBounds_toArray, List.set_cons_zero, List.set_cons_succ]))
  have hS0 : w5.cell? ⟨x, 0, none⟩ = some (.int .i64 ((l : Nat) + 1 : Int)) ∧ w5.cell? ⟨x, 1, none⟩ = some (.int .i64 n) := ⟨d0', d1'⟩
  have h6 : Sat W ((w5.setCell ⟨x + 1 + 1, 0, none⟩ (.int .i64 (l : Nat))).setCell ⟨x + 1 + 1, 1, none⟩ (.int .i64 (2 * n + 1))) (sep (blk (x + 1 + 1) (.cells #[.int .i64 (l : Nat), .int .i64 (2 * n + 1)] 106 (0, 0))) (sep (blk (x + 1) (.cells #[.int .i64 (l : Nat), .int .i64 (2 * n)] 106 (0, 0))) (sep (blk x (.cells #[.int .i64 ((l : Nat) + 1 : Int), .int .i64 n] 106 (0, 0))) A))) := (h5.p2.setCell 0 _).setCell 1 _
  have s0 : w5.cell? ⟨x + 1 + 1, 0, none⟩ = some (.int .i64 0) := h5.p2.cell 0
  have s1 : w5.cell? ⟨x + 1 + 1, 1, none⟩ = some (.int .i64 0) := h5.p2.cell 1
  have v0 : w5.frozen? ⟨x + 1 + 1, 0, none⟩ = false := h5.p2.unfrozen 0
  have v1 : w5.frozen? ⟨x + 1 + 1, 1, none⟩ = false := h5.p2.unfrozen 1
  (refine C_e rfl rfl (fun K hK => ?_); go_simp)
  obtain ⟨w6, hw6⟩ : ∃ w6, w6 = (w5.setCell ⟨x + 1 + 1, 0, none⟩ (.int .i64 (l : Nat))).setCell ⟨x + 1 + 1, 1, none⟩ (.int .i64 (2 * n + 1)) := ⟨_, rfl⟩
  rw [← hw6] at h6 ⊢
  clear hS0 d0' d1' s0 s1 v0 v1 h5 hw6
  (refine hK _ _ (fun h => by cases h) ?_; clear hK K; (try simp only [Act.put, List.setIfInBounds_toArray, List.set_cons_zero, List.set_cons_succ]))
  refine C_nil ?_
  have r0 : w6.cell? ⟨x + 1, 0, none⟩ = some (.int .i64 (l : Nat)) := h6.p1.cell 0
  have r1 : w6.cell? ⟨x + 1, 1, none⟩ = some (.int .i64 (2 * n)) := h6.p1.cell 1
  have r2 : w6.cell? ⟨x + 1 + 1, 0, none⟩ = some (.int .i64 (l : Nat)) := h6.cell 0
  have r3 : w6.cell? ⟨x + 1 + 1, 1, none⟩ = some (.int .i64 (2 * n + 1)) := h6.cell 1
  go_wp2
  trace_state
  refine bodyPost_ret (by simp [results, Tryd.results77, go_sem, r0, r1, r2, r3]; try rfl) rfl ?_
  exact ⟨rfl, h6.drop.drop.drop⟩
theorem aiskey_spec (k : Int) (w : World) : Calls Tryd.prog 47 #[.int .i64 k] w fun e w' => e = .returned (.bool (decide (0 ≤ k ∧ k ≤ 4095))) ∧ w' = w := by
  by_cases h1 : 0 ≤ k
  · have h1' : k ≥ 0 := h1
    go_enter Tryd.func47, Tryd.ntmps47
    go_wp2
    go_ret
    exact ⟨by simp [h1], rfl⟩
  · have h1' : ¬ k ≥ 0 := h1
    go_enter Tryd.func47, Tryd.ntmps47
    go_wp2
    go_ret
    exact ⟨by simp; omega, rfl⟩
end Go.Proofs.YtcmjbjlliehdiaaDoor
