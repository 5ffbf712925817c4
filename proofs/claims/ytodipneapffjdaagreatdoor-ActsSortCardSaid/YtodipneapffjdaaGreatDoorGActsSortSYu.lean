/- The example of chapter 18. -/
import Derived.Test.YtodipneapffjdaaGreatDoorGActsSort45
namespace PA
open Go Go.RowKit
def zA : Ac := ⟨10, 40000, 0, 7, 0, 0, 0, 0, 0, 0, 0, Sv.none, Sv.none, Sv.none, Sv.none, 0, 0, Sv.none, Sv.none⟩
def zB : Ac := ⟨10, 40000, 0, 7, 0, 3, 0, 0, 0, 0, 0, Sv.none, Sv.none, Sv.none, Sv.none, 0, 0, Sv.none, Sv.none⟩
def zC : Ac := ⟨10, 39999, 0, 7, 0, 0, 0, 0, 0, 0, 0, Sv.none, Sv.none, Sv.none, Sv.none, 0, 0, Sv.none, Sv.none⟩
end PA
namespace Go.Proofs.YtodipneapffjdaaGreatDoor
open Go.RowKit PA
theorem bare_zA : bareM zA = true := by kernel_rfl
theorem bare_zB : bareM zB = false := by kernel_rfl
theorem build_zA (w : World) : (Instr.build 37 #[(0, .int .i64 10), (3, .int .i64 7), (1, .int .i64 40000)]).run Tryz.prog w = .ok (.agg #[.int .i64 10, .int .i64 40000, .int .i64 0, .int .i64 7, .int .i64 0, .int .i64 0, .int .i64 0, .int .i64 0, .int .i64 0, .int .i64 0, .int .i64 0, .slice none 0 0, .slice none 0 0, .slice none 0 0, .slice none 0 0, .int .i64 0, .int .i64 0, .slice none 0 0, .slice none 0 0]) w := by kernel_rfl
attribute [local go_sem ↓] storeAt_act loadAt_act sizeAct build_zA
set_option maxRecDepth 100000 in
set_option maxHeartbeats 8000000 in
theorem lives18_spec {W w : World} {A : Assn} (hW : FieldsOK W) (h : Sat W w A) : Calls Tryz.prog 10 #[] w fun e w' => e = .returned (.bool true) ∧ Sat W w' A := by
  have CA : Hid (∀ w' A', Sat W w' A' → Calls Tryz.prog 23 #[.agg #[.int .i64 10, .int .i64 40000, .int .i64 0, .int .i64 7, .int .i64 0, .int .i64 0, .int .i64 0, .int .i64 0, .int .i64 0, .int .i64 0, .int .i64 0, .slice none 0 0, .slice none 0 0, .slice none 0 0, .slice none 0 0, .int .i64 0, .int .i64 0, .slice none 0 0, .slice none 0 0]] w' fun e w'' => e = .returned (.int .i64 0) ∧ Sat W w'' A') := Lib.hid fun w' A' h' => by
    have := valid10_spec hW zA rfl rfl rfl rfl h'
    rwa [if_pos bare_zA] at this
  have CB : Hid (∀ w' A', Sat W w' A' → Calls Tryz.prog 23 #[.agg #[.int .i64 10, .int .i64 40000, .int .i64 0, .int .i64 7, .int .i64 0, .int .i64 3, .int .i64 0, .int .i64 0, .int .i64 0, .int .i64 0, .int .i64 0, .slice none 0 0, .slice none 0 0, .slice none 0 0, .slice none 0 0, .int .i64 0, .int .i64 0, .slice none 0 0, .slice none 0 0]] w' fun e w'' => e = .returned (.int .i64 1) ∧ Sat W w'' A') := Lib.hid fun w' A' h' => by
    have := valid10_spec hW zB rfl rfl rfl rfl h'
    rwa [if_neg (by rw [bare_zB]; decide)] at this
  have CK1 : Hid (∀ w' A', Sat W w' A' → Calls Tryz.prog 9 #[.agg #[.int .i64 10, .int .i64 39999, .int .i64 0, .int .i64 7, .int .i64 0, .int .i64 0, .int .i64 0, .int .i64 0, .int .i64 0, .int .i64 0, .int .i64 0, .slice none 0 0, .slice none 0 0, .slice none 0 0, .slice none 0 0, .int .i64 0, .int .i64 0, .slice none 0 0, .slice none 0 0], .agg #[.int .i64 10, .int .i64 40000, .int .i64 0, .int .i64 7, .int .i64 0, .int .i64 0, .int .i64 0, .int .i64 0, .int .i64 0, .int .i64 0, .int .i64 0, .slice none 0 0, .slice none 0 0, .slice none 0 0, .slice none 0 0, .int .i64 0, .int .i64 0, .slice none 0 0, .slice none 0 0]] w' fun e w'' => e = .returned (.int .i64 (-1)) ∧ Sat W w'' A') := Lib.hid fun w' A' h' => compareK_spec zC zA (.inl (by decide)) h'
  have CK2 : Hid (∀ w' A', Sat W w' A' → Calls Tryz.prog 9 #[.agg #[.int .i64 10, .int .i64 40000, .int .i64 0, .int .i64 7, .int .i64 0, .int .i64 0, .int .i64 0, .int .i64 0, .int .i64 0, .int .i64 0, .int .i64 0, .slice none 0 0, .slice none 0 0, .slice none 0 0, .slice none 0 0, .int .i64 0, .int .i64 0, .slice none 0 0, .slice none 0 0], .agg #[.int .i64 10, .int .i64 39999, .int .i64 0, .int .i64 7, .int .i64 0, .int .i64 0, .int .i64 0, .int .i64 0, .int .i64 0, .int .i64 0, .int .i64 0, .slice none 0 0, .slice none 0 0, .slice none 0 0, .slice none 0 0, .int .i64 0, .int .i64 0, .slice none 0 0, .slice none 0 0]] w' fun e w'' => e = .returned (.int .i64 1) ∧ Sat W w'' A') := Lib.hid fun w' A' h' => compareK_spec zA zC (.inl (by decide)) h'
  have CK3 : Hid (∀ w' A', Sat W w' A' → Calls Tryz.prog 9 #[.agg #[.int .i64 10, .int .i64 40000, .int .i64 0, .int .i64 7, .int .i64 0, .int .i64 0, .int .i64 0, .int .i64 0, .int .i64 0, .int .i64 0, .int .i64 0, .slice none 0 0, .slice none 0 0, .slice none 0 0, .slice none 0 0, .int .i64 0, .int .i64 0, .slice none 0 0, .slice none 0 0], .agg #[.int .i64 10, .int .i64 40000, .int .i64 0, .int .i64 7, .int .i64 0, .int .i64 0, .int .i64 0, .int .i64 0, .int .i64 0, .int .i64 0, .int .i64 0, .slice none 0 0, .slice none 0 0, .slice none 0 0, .slice none 0 0, .int .i64 0, .int .i64 0, .slice none 0 0, .slice none 0 0]] w' fun e w'' => e = .returned (.int .i64 0) ∧ Sat W w'' A') := Lib.hid fun w' A' h' => compare_self zA (enc10 zA) (fun w2 A2 h2 => aencode10_spec hW zA rfl rfl rfl rfl bare_zA rfl (by decide) h2) h'
  have h1 := h.alloc (.cells #[.int .i64 10, .int .i64 40000, .int .i64 0, .int .i64 7, .int .i64 0, .int .i64 0, .int .i64 0, .int .i64 0, .int .i64 0, .int .i64 0, .int .i64 0, .slice none 0 0, .slice none 0 0, .slice none 0 0, .slice none 0 0, .int .i64 0, .int .i64 0, .slice none 0 0, .slice none 0 0] 37)
  have hs1 := st_lit w (.int .i64 0) (.int .i64 0) (.int .i64 0) (.int .i64 0) (.int .i64 0) (.int .i64 0) (.int .i64 0) (.int .i64 0) (.int .i64 0) (.int .i64 0) (.int .i64 0) (.slice none 0 0) (.slice none 0 0) (.slice none 0 0) (.slice none 0 0) (.int .i64 0) (.int .i64 0) (.slice none 0 0) (.slice none 0 0) 10 40000 0 7 0 0 0 0 0 0 0 0 0
  obtain ⟨B, hB⟩ : ∃ B, B = w.heap.size := ⟨_, rfl⟩
  obtain ⟨w1, hw1⟩ : ∃ y, y = w.alloc (.cells #[.int .i64 10, .int .i64 40000, .int .i64 0, .int .i64 7, .int .i64 0, .int .i64 0, .int .i64 0, .int .i64 0, .int .i64 0, .int .i64 0, .int .i64 0, .slice none 0 0, .slice none 0 0, .slice none 0 0, .slice none 0 0, .int .i64 0, .int .i64 0, .slice none 0 0, .slice none 0 0] 37) := ⟨_, rfl⟩
  have hsz1 : w1.heap.size = B + 1 := by rw [hw1, World.size_alloc, hB]
  rw [← hB, ← hw1] at h1
  rw [← hw1] at hs1
  have h2 := h1.alloc (.cells #[.int .i64 10, .int .i64 40000, .int .i64 0, .int .i64 7, .int .i64 0, .int .i64 0, .int .i64 0, .int .i64 0, .int .i64 0, .int .i64 0, .int .i64 0, .slice none 0 0, .slice none 0 0, .slice none 0 0, .slice none 0 0, .int .i64 0, .int .i64 0, .slice none 0 0, .slice none 0 0] 37)
  have hs2 := st_lit w1 (.int .i64 0) (.int .i64 0) (.int .i64 0) (.int .i64 0) (.int .i64 0) (.int .i64 0) (.int .i64 0) (.int .i64 0) (.int .i64 0) (.int .i64 0) (.int .i64 0) (.slice none 0 0) (.slice none 0 0) (.slice none 0 0) (.slice none 0 0) (.int .i64 0) (.int .i64 0) (.slice none 0 0) (.slice none 0 0) 10 40000 0 7 0 0 0 0 0 0 0 0 0
  obtain ⟨w2, hw2⟩ : ∃ y, y = w1.alloc (.cells #[.int .i64 10, .int .i64 40000, .int .i64 0, .int .i64 7, .int .i64 0, .int .i64 0, .int .i64 0, .int .i64 0, .int .i64 0, .int .i64 0, .int .i64 0, .slice none 0 0, .slice none 0 0, .slice none 0 0, .slice none 0 0, .int .i64 0, .int .i64 0, .slice none 0 0, .slice none 0 0] 37) := ⟨_, rfl⟩
  have hsz2 : w2.heap.size = B + 2 := by rw [hw2, World.size_alloc, hsz1]
  rw [hsz1, ← hw2] at h2
  rw [← hw2] at hs2
  have hl1 : Sem.run Tryz.prog (ldAct (.pointer (some ⟨B, 0, none⟩))) w1 = .ok (.agg #[.int .i64 10, .int .i64 40000, .int .i64 0, .int .i64 7, .int .i64 0, .int .i64 0, .int .i64 0, .int .i64 0, .int .i64 0, .int .i64 0, .int .i64 0, .slice none 0 0, .slice none 0 0, .slice none 0 0, .slice none 0 0, .int .i64 0, .int .i64 0, .slice none 0 0, .slice none 0 0]) w1 := act_ld (x := zA) h1
  have h3 := h2.setCell 5 (.int .i64 3)
  obtain ⟨w3, hw3⟩ : ∃ y, y = w2.setCell ⟨B + 1, 5, none⟩ (.int .i64 3) := ⟨_, rfl⟩
  rw [← hw3] at h3
  have hsz3 : w3.heap.size = B + 2 := by rw [hw3]; simpa using hsz2
  have h3 : Sat W w3 (sep (blk (B + 1) (.cells zB.cells.toArray 37 (0, 0))) (sep (blk B (.cells zA.cells.toArray 37 (0, 0))) A)) := h3
  have hl3 : Sem.run Tryz.prog (ldAct (.pointer (some ⟨B, 0, none⟩))) w3 = .ok (.agg #[.int .i64 10, .int .i64 40000, .int .i64 0, .int .i64 7, .int .i64 0, .int .i64 0, .int .i64 0, .int .i64 0, .int .i64 0, .int .i64 0, .int .i64 0, .slice none 0 0, .slice none 0 0, .slice none 0 0, .slice none 0 0, .int .i64 0, .int .i64 0, .slice none 0 0, .slice none 0 0]) w3 := act_ld (x := zA) h3.p1
  have h4 := h3.alloc (.cells #[.int .i64 10, .int .i64 40000, .int .i64 0, .int .i64 7, .int .i64 0, .int .i64 0, .int .i64 0, .int .i64 0, .int .i64 0, .int .i64 0, .int .i64 0, .slice none 0 0, .slice none 0 0, .slice none 0 0, .slice none 0 0, .int .i64 0, .int .i64 0, .slice none 0 0, .slice none 0 0] 37)
  have hs4 := st_lit w3 (.int .i64 0) (.int .i64 0) (.int .i64 0) (.int .i64 0) (.int .i64 0) (.int .i64 0) (.int .i64 0) (.int .i64 0) (.int .i64 0) (.int .i64 0) (.int .i64 0) (.slice none 0 0) (.slice none 0 0) (.slice none 0 0) (.slice none 0 0) (.int .i64 0) (.int .i64 0) (.slice none 0 0) (.slice none 0 0) 10 40000 0 7 0 0 0 0 0 0 0 0 0
  obtain ⟨w4, hw4⟩ : ∃ y, y = w3.alloc (.cells #[.int .i64 10, .int .i64 40000, .int .i64 0, .int .i64 7, .int .i64 0, .int .i64 0, .int .i64 0, .int .i64 0, .int .i64 0, .int .i64 0, .int .i64 0, .slice none 0 0, .slice none 0 0, .slice none 0 0, .slice none 0 0, .int .i64 0, .int .i64 0, .slice none 0 0, .slice none 0 0] 37) := ⟨_, rfl⟩
  rw [hsz3, ← hw4] at h4
  rw [← hw4] at hs4
  have h5 := h4.setCell 1 (.int .i64 39999)
  obtain ⟨w5, hw5⟩ : ∃ y, y = w4.setCell ⟨B + 2, 1, none⟩ (.int .i64 39999) := ⟨_, rfl⟩
  rw [← hw5] at h5
  have h5 : Sat W w5 (sep (blk (B + 2) (.cells zC.cells.toArray 37 (0, 0))) (sep (blk (B + 1) (.cells zB.cells.toArray 37 (0, 0))) (sep (blk B (.cells zA.cells.toArray 37 (0, 0))) A))) := h5
  obtain ⟨X, hX⟩ : ∃ X, X = sep (blk (B + 2) (.cells zC.cells.toArray 37 (0, 0))) (sep (blk (B + 1) (.cells zB.cells.toArray 37 (0, 0))) (sep (blk B (.cells zA.cells.toArray 37 (0, 0))) A)) := ⟨_, rfl⟩
  rw [← hX] at h5
  have HX : Hid (∀ w', Sat W w' X → Sem.run Tryz.prog (ldAct (.pointer (some ⟨B, 0, none⟩))) w' = .ok (.agg #[.int .i64 10, .int .i64 40000, .int .i64 0, .int .i64 7, .int .i64 0, .int .i64 0, .int .i64 0, .int .i64 0, .int .i64 0, .int .i64 0, .int .i64 0, .slice none 0 0, .slice none 0 0, .slice none 0 0, .slice none 0 0, .int .i64 0, .int .i64 0, .slice none 0 0, .slice none 0 0]) w' ∧ Sem.run Tryz.prog (ldAct (.pointer (some ⟨B + 1, 0, none⟩))) w' = .ok (.agg #[.int .i64 10, .int .i64 40000, .int .i64 0, .int .i64 7, .int .i64 0, .int .i64 3, .int .i64 0, .int .i64 0, .int .i64 0, .int .i64 0, .int .i64 0, .slice none 0 0, .slice none 0 0, .slice none 0 0, .slice none 0 0, .int .i64 0, .int .i64 0, .slice none 0 0, .slice none 0 0]) w' ∧ Sem.run Tryz.prog (ldAct (.pointer (some ⟨B + 2, 0, none⟩))) w' = .ok (.agg #[.int .i64 10, .int .i64 39999, .int .i64 0, .int .i64 7, .int .i64 0, .int .i64 0, .int .i64 0, .int .i64 0, .int .i64 0, .int .i64 0, .int .i64 0, .slice none 0 0, .slice none 0 0, .slice none 0 0, .slice none 0 0, .int .i64 0, .int .i64 0, .slice none 0 0, .slice none 0 0]) w' ∧ Sat W w' A) := Lib.hid fun w' h' => by
    rw [hX] at h'
    exact ⟨act_ld (x := zA) h'.p2, act_ld (x := zB) h'.p1, act_ld (x := zC) h', h'.drop.drop.drop⟩
  have u5 := act_fr (x := zA) h2 5 _ rfl
  have u1 := act_fr (x := zA) h4 1 _ rfl
  have HW := Lib.hid (And.intro hB (And.intro hw1 (And.intro hw2 (And.intro hw3 (And.intro hw4 hw5)))))
  have HZ := Lib.hid (And.intro hsz1 (And.intro hsz2 hsz3))
  have H5 := Lib.hid h5
  obtain ⟨u5a, u5b⟩ := u5
  obtain ⟨u1a, u1b⟩ := u1
  clear h h1 h2 h3 h4 h5 hX hw1 hw2 hw3 hw4 hw5 hsz1 hsz2 hsz3
  clear hB
  go_enter Tryz.func10, Tryz.ntmps10
  go_upto_region 2 with (fail)
  rw [← HW.out.1]
  go_upto_region 3 with (fail)
  rw [HZ.out.1]
  go_upto_region 4 with (fail)
  rw [← HW.out.2.2.2.1]
  go_upto_region 5 with (fail)
  rw [HZ.out.2.2]
  go_upto_region 6 with (fail)
  rw [← HW.out.2.2.2.2.2]
  clear hs1 hs2 hs4 hl1 hl3 u5a u5b u1a u1b
  obtain ⟨l1, l2, l3, -⟩ := HX.out _ H5.out
  go_wp2_with fail
  refine (CA.out _ _ H5.out).mono ?_
  rintro e w6 ⟨rfl, h6⟩
  have H6 := Lib.hid h6
  clear h6 l1 l2 l3 H5
  obtain ⟨l1, l2, l3, -⟩ := HX.out _ H6.out
  go_wp2_with fail
  refine (CB.out _ _ H6.out).mono ?_
  rintro e w7 ⟨rfl, h7⟩
  have H7 := Lib.hid h7
  clear h7 l1 l2 l3 H6
  obtain ⟨l1, l2, l3, -⟩ := HX.out _ H7.out
  go_wp2_with fail
  refine (CK1.out _ _ H7.out).mono ?_
  rintro e w8 ⟨rfl, h8⟩
  have H8 := Lib.hid h8
  clear h8 l1 l2 l3 H7
  obtain ⟨l1, l2, l3, -⟩ := HX.out _ H8.out
  go_wp2_with fail
  refine (CK2.out _ _ H8.out).mono ?_
  rintro e w9 ⟨rfl, h9⟩
  have H9 := Lib.hid h9
  clear h9 l1 l2 l3 H8
  obtain ⟨l1, l2, l3, -⟩ := HX.out _ H9.out
  go_wp2_with fail
  refine (CK3.out _ _ H9.out).mono ?_
  rintro e w10 ⟨rfl, h10⟩
  have HF := Lib.hid (HX.out _ h10).2.2.2
  clear h10 l1 l2 l3 H9
  go_wp2
  go_ret
  exact ⟨rfl, HF.out⟩
end Go.Proofs.YtodipneapffjdaaGreatDoor
