/- journal.Log: the deferred closure, Len, Up, Append. -/
import Derived.Defers
import Derived.Test.YtdaknmcmjnbfeaaGreatGJournalRunsSD4
import Derived.Test.YtdaknmcmjnbfeaaGreatGJournalRunsSJ5
namespace Go.Proofs.YtdaknmcmjnbfeaaGreat
open Go.RowKit PA
structure LSt where
  file : Nat
  n : Nat
  down : Bool
def isLog (q p : Nat) (L : LSt) : Assn := blk q (.cells #[.pointer (some ⟨p, 0, none⟩), .int .i64 (L.file : Nat), .int .i64 (L.n : Nat), .bool L.down] 59 (0, 0))
def LSt.after (L : LSt) (e : Int) : LSt := ⟨L.file, if e = 0 then L.n + 1 else L.n, e == 19⟩
def appendJ (d : DSt) (L : LSt) (b : List UInt8) : Int × DSt × LSt :=
  if 65536 < b.length then (4, d, L) else if L.down then (19, d, L.after 19) else
  if (appendD d L.file (frameJ L.n b)).1 ≠ 0 then ((appendD d L.file (frameJ L.n b)).1, (appendD d L.file (frameJ L.n b)).2, L.after (appendD d L.file (frameJ L.n b)).1)
  else ((syncD (appendD d L.file (frameJ L.n b)).2).1, (syncD (appendD d L.file (frameJ L.n b)).2).2, L.after (syncD (appendD d L.file (frameJ L.n b)).2).1)
theorem append1_spec {W w : World} {A : Assn} (u : FrameMode) (ce cl q p : Nat) (e : Int) (L : LSt) (hn : L.n ≤ 1000000000)
    (h : Sat W w (sep (isLog q p L) (sep (blk ce (.cells #[.int .i64 e] 30 (0, 0))) (sep (blk cl (.cells #[.pointer (some ⟨q, 0, none⟩)] 28 (0, 0))) A)))) :
    CallsD Tryz.prog 34 #[.pointer (some ⟨ce, 0, none⟩), .pointer (some ⟨cl, 0, none⟩)] u w fun o u' w' => u' = u ∧ (o = .returned (.tuple #[]) ∧
      Sat W w' (sep (isLog q p (L.after e)) (sep (blk ce (.cells #[.int .i64 e] 30 (0, 0))) (sep (blk cl (.cells #[.pointer (some ⟨q, 0, none⟩)] 28 (0, 0))) A)))) := by
  have c1 : w.cell? ⟨ce, 0, none⟩ = some (.int .i64 e) := h.p1.cell 0
  have c2 : w.cell? ⟨cl, 0, none⟩ = some (.pointer (some ⟨q, 0, none⟩)) := h.p2.cell 0
  have h1 := h.setCell 3 (.bool (e == 19))
  have d0 : w.cell? ⟨q, 2, none⟩ = some (.int .i64 (L.n : Nat)) := h.cell 2
  have f3 := h.unfrozen 3
  have f2 := h.unfrozen 2
  have c3 := h.cell 3
  have hnI : (L.n : Int) ≤ 1000000000 := by omega
  have k1 : (w.setCell ⟨q, 3, none⟩ (.bool (e == 19))).cell? ⟨ce, 0, none⟩ = some (.int .i64 e) := h1.p1.cell 0
  have k2 : (w.setCell ⟨q, 3, none⟩ (.bool (e == 19))).cell? ⟨cl, 0, none⟩ = some (.pointer (some ⟨q, 0, none⟩)) := h1.p2.cell 0
  have k3 : (w.setCell ⟨q, 3, none⟩ (.bool (e == 19))).cell? ⟨q, 2, none⟩ = some (.int .i64 (L.n : Nat)) := h1.cell 2
  have kf := h1.unfrozen 2
  obtain ⟨n, hn⟩ : ∃ n, n = L.n := ⟨_, rfl⟩
  rw [← hn] at d0 hnI k3
  by_cases he : e = 0
  · subst he
    have h2 := h1.setCell 2 (.int .i64 ((n : Int) + 1))
    have H2 := Lib.hid h2
    have HN := Lib.hid hn
    clear h h1 h2 hn
    go_enter_d Tryz.func34, Tryz.ntmps34
    go_wp2
    go_end0
    have := H2.out
    simpa [isLog, LSt.after, HN.out] using this
  · have b1 : (e == 0) = false := by simp [he]
    have H2 := Lib.hid h1
    have HE := Lib.hid he
    clear h h1 hn he
    go_enter_d Tryz.func34, Tryz.ntmps34
    go_wp2
    go_end0
    have := H2.out
    simpa [isLog, LSt.after, HE.out] using this
theorem jlen_spec {W w : World} {A : Assn} (q p : Nat) (L : LSt) (h : Sat W w (sep (isLog q p L) A)) :
    Calls Tryz.prog 17 #[.pointer (some ⟨q, 0, none⟩)] w fun e w' => e = .returned (.int .i64 (L.n : Nat)) ∧ Sat W w' (sep (isLog q p L) A) := by
  have c2 : w.cell? ⟨q, 2, none⟩ = some (.int .i64 (L.n : Nat)) := h.cell 2
  go_enter Tryz.func17, Tryz.ntmps17
  go_wp2
  go_ret
  exact ⟨rfl, h⟩
theorem jup_spec {W w : World} {A : Assn} (q p : Nat) (L : LSt) (h : Sat W w (sep (isLog q p L) A)) :
    Calls Tryz.prog 18 #[.pointer (some ⟨q, 0, none⟩)] w fun e w' => e = .returned (.bool (!L.down)) ∧ Sat W w' (sep (isLog q p L) A) := by
  have c2 : w.cell? ⟨q, 3, none⟩ = some (.bool L.down) := h.cell 3
  go_enter Tryz.func18, Tryz.ntmps18
  go_wp2
  go_ret
  exact ⟨rfl, h⟩
theorem jappend_door {W w : World} {A : Assn} (q p cl : Nat) (L : LSt) (x : Int) (tm : Array Value) (ht : tm[4]? = some (.pointer (some ⟨cl + 1, 0, none⟩))) (hn : L.n ≤ 1000000000)
    (h : Sat W w (sep (blk (cl + 1) (.cells #[.int .i64 x] 30 (0, 0))) (sep (blk cl (.cells #[.pointer (some ⟨q, 0, none⟩)] 28 (0, 0))) (sep (isLog q p L) A)))) :
    bodyPostD Tryz.prog Tryz.f15 (fun e w' => e = .returned (.int .i64 x) ∧ Sat W w' (sep (isLog q p (L.after x)) A)) Exit.ret
      { tmps := tm, defers := [{ target := .fn (.func 34) #[.pointer (some ⟨cl + 1, 0, none⟩), .pointer (some ⟨cl, 0, none⟩)], args := #[] }] } w := by
  refine leaves_cons (f := 34) (args := #[.pointer (some ⟨cl + 1, 0, none⟩), .pointer (some ⟨cl, 0, none⟩)]) (by simp) (by simp [go_sem]) ?_
  refine (append1_spec .returning (cl + 1) cl q p x L hn (by simpa only [sep_comm, sep_lcomm, sep_assoc] using h)).mono ?_
  rintro e u' w2 ⟨rfl, rfl, h2⟩
  have c : w2.cell? ⟨cl + 1, 0, none⟩ = some (.int .i64 x) := h2.p1.cell 0
  refine ⟨.int .i64 x, ?_, rfl, ?_⟩
  · simp [results, Tryz.results15, go_sem, ht, c]
  · have := h2.p1.drop.p1.drop
    exact this
set_option maxRecDepth 100000 in
set_option maxHeartbeats 4000000 in
theorem jappend_spec {W w : World} {A : Assn} {I : Mem} (q p : Nat) (d : DSt) (L : LSt) (v : Value) (b : List UInt8) (h : Sat W w (sep (isLog q p L) (sep (isDisk p d) (sep (kn I) A)))) (hv : rBytes.rel I [v] b) (hb : b.length ≤ 100000) (hn : L.n ≤ 1000000000) :
    Calls Tryz.prog 15 #[.pointer (some ⟨q, 0, none⟩), v] w fun e w' => e = .returned (.int .i64 (appendJ d L b).1) ∧ Sat W w' (sep (isLog q p (appendJ d L b).2.2) (sep (isDisk p (appendJ d L b).2.1) (sep (kn I) A))) := by
  obtain ⟨va, vc, rfl, -⟩ := slice_f hv
  have hmf : ∀ (fn : Fn) (first cap : Array Value) (w : World), (Instr.makeFunc fn first cap).run Tryz.prog w = .ok (.func fn first cap) w := fun _ _ _ _ => rfl
  have h1 := (h.alloc (.cells #[.pointer (some ⟨q, 0, none⟩)] 28)).alloc (.cells #[.int .i64 0] 30)
  rw [World.size_alloc] at h1
  obtain ⟨cl, hcl⟩ : ∃ cl, cl = w.heap.size := ⟨_, rfl⟩
  obtain ⟨w1, hw1⟩ : ∃ w1, w1 = (w.alloc (.cells #[.pointer (some ⟨q, 0, none⟩)] 28)).alloc (.cells #[.int .i64 0] 30) := ⟨_, rfl⟩
  rw [← hcl, ← hw1] at h1
  obtain ⟨bl, hbl⟩ : ∃ bl, bl = b.length := ⟨_, rfl⟩
  rw [← hbl] at hv hb ⊢
  have c0 : w1.cell? ⟨cl, 0, none⟩ = some (.pointer (some ⟨q, 0, none⟩)) := h1.p1.cell 0
  have q0 : w1.cell? ⟨q, 0, none⟩ = some (.pointer (some ⟨p, 0, none⟩)) := h1.p2.cell 0
  have q1 : w1.cell? ⟨q, 1, none⟩ = some (.int .i64 (L.file : Nat)) := h1.p2.cell 1
  have q2 : w1.cell? ⟨q, 2, none⟩ = some (.int .i64 (L.n : Nat)) := h1.p2.cell 2
  have q3 : w1.cell? ⟨q, 3, none⟩ = some (.bool L.down) := h1.p2.cell 3
  have e0 := h1.cell 0
  have ef := h1.unfrozen 0
  have HW := Lib.hid (And.intro hcl hw1)
  have HV := Lib.hid hv
  have HB := Lib.hid hbl
  have HN := Lib.hid hn
  have H1 := Lib.hid h1
  clear h hv hcl hw1 hbl hn h1
  by_cases hlong : 65536 < bl
  · have e : appendJ d L b = (4, d, L) := by rw [appendJ, if_pos (by rw [← HB.out]; exact hlong)]
    rw [e]
    have g1 : (65536 : Int) < (bl : Int) := by omega
    clear e hlong
    go_enter_defers Tryz.func15, Tryz.ntmps15
    go_upto_region 1 with (fail)
    rw [← HW.out.2, ← HW.out.1]
    go_wp2_with fail
    have h2 := H1.out.setCell 0 (.int .i64 4)
    have c : (w1.setCell ⟨cl + 1, 0, none⟩ (.int .i64 4)).cell? ⟨cl + 1, 0, none⟩ = some (.int .i64 4) := h2.cell 0
    refine ⟨.int .i64 4, ?_, rfl, ?_⟩
    · simp [results, Tryz.results15, go_sem, c]
    · exact h2.drop.drop
  · have g1 : ¬ (65536 : Int) < (bl : Int) := by omega
    have HJ := Lib.hid (show appendJ d L b = _ by rw [appendJ, if_neg (by rw [← HB.out]; exact hlong)])
    go_enter_defers Tryz.func15, Tryz.ntmps15
    go_upto_region 1 with (fail)
    rw [← HW.out.2, ← HW.out.1]
    cases hdown : L.down with
    | true =>
      rw [hdown] at q3
      go_wp2_with fail
      rw [HJ.out, hdown]
      exact jappend_door q p cl L 19 _ rfl HN.out (H1.out.setCell 0 (.int .i64 19))
    | false =>
      rw [hdown] at q3
      have HD := Lib.hid hdown
      clear hdown hlong
      have hS0 : w1.drew.cell? ⟨cl, 0, none⟩ = some (.pointer (some ⟨q, 0, none⟩)) ∧ w1.drew.cell? ⟨q, 0, none⟩ = some (.pointer (some ⟨p, 0, none⟩)) ∧ w1.drew.cell? ⟨q, 1, none⟩ = some (.int .i64 (L.file : Nat)) := ⟨c0, q0, q1⟩
      have q2d : w1.drew.cell? ⟨q, 2, none⟩ = some (.int .i64 (L.n : Nat)) := q2
      have hfr := jframe_spec (A := sep (blk (cl + 1) (.cells #[.int .i64 0] 30 (0, 0))) (sep (blk cl (.cells #[.pointer (some ⟨q, 0, none⟩)] 28 (0, 0))) (sep (isLog q p L) (sep (isDisk p d) A)))) (L.n : Int) (.slice va bl vc) b (by have := H1.out.drew; simpa only [sep_comm, sep_lcomm, sep_assoc] using this) HV.out ⟨by omega, by have := HN.out; omega⟩ (by rw [← HB.out]; omega)
      have HFR := Lib.hid hfr
      clear hfr
      go_wp2_with fail
      refine wp_region_canon rfl (fun w' => w'.cell? ⟨cl, 0, none⟩ = some (.pointer (some ⟨q, 0, none⟩)) ∧ w'.cell? ⟨q, 0, none⟩ = some (.pointer (some ⟨p, 0, none⟩)) ∧ w'.cell? ⟨q, 1, none⟩ = some (.int .i64 (L.file : Nat))) [(0, .s), (1, .p), (2, .p), (3, .s), (4, .s), (5, .p), (6, .p), (7, .s), (8, .t), (9, .p), (10, .p), (11, .t), (12, .p), (13, .e true), (14, .e false), (15, .p)] (by kernel_rfl) ?_
      (repeat (first | (refine C_p (v := ?_) rfl rfl (fun w' => ?_) ?_; rotate_left; (go_simp; with_reducible rfl); simp only [Act.put, List.setIfInBounds_toArray, List.set_cons_zero, List.set_cons_succ]) | (refine C_s (v := ?_) rfl rfl hS0 (fun w' hS => ?_) ?_; rotate_left; ((try dsimp only at hS); go_simp; with_reducible rfl); simp only [Act.put, List.setIfInBounds_toArray, List.set_cons_zero, List.set_cons_succ]) | (refine C_t (v := ?_) rfl rfl ?_ ?_; rotate_left; (go_simp; with_reducible rfl); simp only [Act.put, List.setIfInBounds_toArray, List.set_cons_zero, List.set_cons_succ]) | (refine C_po rfl rfl ?_; simp only [Act.put, List.setIfInBounds_toArray, List.set_cons_zero, List.set_cons_succ]) | (refine C_so rfl rfl hS0 ?_; simp only [Act.put, List.setIfInBounds_toArray, List.set_cons_zero, List.set_cons_succ]) | (refine C_to rfl rfl ?_; simp only [Act.put, List.setIfInBounds_toArray, List.set_cons_zero, List.set_cons_succ])))
      (refine C_e rfl rfl (fun K hK => ?_); go_simp)
      refine HFR.out.mono ?_
      rintro e w2 ⟨fa, fc, rfl, h2⟩
      obtain ⟨fr, hfr⟩ : ∃ fr, fr = frameJ L.n b := ⟨_, rfl⟩
      have hfl : fr.length ≤ 1000000 := by rw [hfr]; have := frameJ_le L.n b (by omega) (by have := HN.out; omega) (by rw [← HB.out]; omega); rw [← HB.out] at this; omega
      rw [← hfr] at h2 HJ ⊢
      obtain ⟨J, hJ, hf, h3⟩ := h2.bytes_of_osl.2.learn
      have hS1 : w2.cell? ⟨cl, 0, none⟩ = some (.pointer (some ⟨q, 0, none⟩)) ∧ w2.cell? ⟨q, 0, none⟩ = some (.pointer (some ⟨p, 0, none⟩)) ∧ w2.cell? ⟨q, 1, none⟩ = some (.int .i64 (L.file : Nat)) := ⟨h3.p2.cell 0, h3.p3.cell 0, h3.p3.cell 1⟩
      have HJJ := Lib.hid hJ
      have HFV := Lib.hid hf
      have HFL := Lib.hid hfl
      obtain ⟨fl, hfl2⟩ : ∃ fl, fl = fr.length := ⟨_, rfl⟩
      rw [← hfl2] at HFV ⊢
      clear hS0 q2d HFR h2 hfr hfl hJ hf hfl2
      (refine hK _ _ (fun _ => hS1) ?_; clear hK K; (try simp only [Act.put, List.setIfInBounds_toArray, List.set_cons_zero, List.set_cons_succ]))
      (repeat (first | (refine C_p (v := ?_) rfl rfl (fun w' => ?_) ?_; rotate_left; (go_simp; with_reducible rfl); simp only [Act.put, List.setIfInBounds_toArray, List.set_cons_zero, List.set_cons_succ]) | (refine C_s (v := ?_) rfl rfl hS0 (fun w' hS => ?_) ?_; rotate_left; ((try dsimp only at hS); go_simp; with_reducible rfl); simp only [Act.put, List.setIfInBounds_toArray, List.set_cons_zero, List.set_cons_succ]) | (refine C_t (v := ?_) rfl rfl ?_ ?_; rotate_left; (go_simp; with_reducible rfl); simp only [Act.put, List.setIfInBounds_toArray, List.set_cons_zero, List.set_cons_succ]) | (refine C_po rfl rfl ?_; simp only [Act.put, List.setIfInBounds_toArray, List.set_cons_zero, List.set_cons_succ]) | (refine C_so rfl rfl hS0 ?_; simp only [Act.put, List.setIfInBounds_toArray, List.set_cons_zero, List.set_cons_succ]) | (refine C_to rfl rfl ?_; simp only [Act.put, List.setIfInBounds_toArray, List.set_cons_zero, List.set_cons_succ])))
      (refine C_e rfl rfl (fun K hK => ?_); go_simp)
      refine (dappend_spec (A := sep (blk (cl + 1) (.cells #[.int .i64 0] 30 (0, 0))) (sep (blk cl (.cells #[.pointer (some ⟨q, 0, none⟩)] 28 (0, 0))) (sep (isLog q p L) A))) p d (L.file : Int) _ fr (by simpa only [sep_comm, sep_lcomm, sep_assoc] using h3) HFV.out HFL.out).mono ?_
      rintro e w3 ⟨rfl, h4⟩
      obtain ⟨e1, he1⟩ : ∃ e1, e1 = (appendD d L.file fr).1 := ⟨_, rfl⟩
      obtain ⟨d1, hd1⟩ : ∃ d1, d1 = (appendD d L.file fr).2 := ⟨_, rfl⟩
      rw [← he1]
      rw [← hd1] at h4
      rw [← he1, ← hd1] at HJ
      clear hS1 h3 he1 hd1
      (refine hK _ _ (fun h => by cases h) ?_; clear hK K; (try simp only [Act.put, List.setIfInBounds_toArray, List.set_cons_zero, List.set_cons_succ]))
      (repeat (first | (refine C_p (v := ?_) rfl rfl (fun w' => ?_) ?_; rotate_left; (go_simp; with_reducible rfl); simp only [Act.put, List.setIfInBounds_toArray, List.set_cons_zero, List.set_cons_succ]) | (refine C_s (v := ?_) rfl rfl hS0 (fun w' hS => ?_) ?_; rotate_left; ((try dsimp only at hS); go_simp; with_reducible rfl); simp only [Act.put, List.setIfInBounds_toArray, List.set_cons_zero, List.set_cons_succ]) | (refine C_t (v := ?_) rfl rfl ?_ ?_; rotate_left; (go_simp; with_reducible rfl); simp only [Act.put, List.setIfInBounds_toArray, List.set_cons_zero, List.set_cons_succ]) | (refine C_po rfl rfl ?_; simp only [Act.put, List.setIfInBounds_toArray, List.set_cons_zero, List.set_cons_succ]) | (refine C_so rfl rfl hS0 ?_; simp only [Act.put, List.setIfInBounds_toArray, List.set_cons_zero, List.set_cons_succ]) | (refine C_to rfl rfl ?_; simp only [Act.put, List.setIfInBounds_toArray, List.set_cons_zero, List.set_cons_succ])))
      refine C_nil ?_
      have h5 : Sat W w3 (sep (blk (cl + 1) (.cells #[.int .i64 0] 30 (0, 0))) (sep (blk cl (.cells #[.pointer (some ⟨q, 0, none⟩)] 28 (0, 0))) (sep (isLog q p L) (sep (isDisk p d1) (sep (kn I) A))))) := by
        have h6 : Sat W w3 (sep (kn J) (sep (blk (cl + 1) (.cells #[.int .i64 0] 30 (0, 0))) (sep (blk cl (.cells #[.pointer (some ⟨q, 0, none⟩)] 28 (0, 0))) (sep (isLog q p L) (sep (isDisk p d1) A))))) := by simpa only [sep_comm, sep_lcomm, sep_assoc] using h4
        have h7 := h6.kn_mono HJJ.out
        simpa only [sep_comm, sep_lcomm, sep_assoc] using h7
      have c0 : w3.cell? ⟨cl, 0, none⟩ = some (.pointer (some ⟨q, 0, none⟩)) := h5.p1.cell 0
      have q0 : w3.cell? ⟨q, 0, none⟩ = some (.pointer (some ⟨p, 0, none⟩)) := h5.p2.cell 0
      have e0 := h5.cell 0
      have ef := h5.unfrozen 0
      have H5 := Lib.hid h5
      clear h4 h5
      by_cases hne : e1 = 0
      · subst hne
        go_wp2_with fail
        refine (dsync_spec p d1 (A := sep (blk (cl + 1) (.cells #[.int .i64 0] 30 (0, 0))) (sep (blk cl (.cells #[.pointer (some ⟨q, 0, none⟩)] 28 (0, 0))) (sep (isLog q p L) (sep (kn I) A)))) (by have := H5.out; simpa only [sep_comm, sep_lcomm, sep_assoc] using this)).mono ?_
        rintro e w4 ⟨rfl, h6⟩
        obtain ⟨e2, he2⟩ : ∃ e2, e2 = (syncD d1).1 := ⟨_, rfl⟩
        obtain ⟨d2, hd2⟩ : ∃ d2, d2 = (syncD d1).2 := ⟨_, rfl⟩
        rw [← he2]
        rw [← hd2] at h6
        rw [← he2, ← hd2] at HJ
        have h7 : Sat W w4 (sep (blk (cl + 1) (.cells #[.int .i64 0] 30 (0, 0))) (sep (blk cl (.cells #[.pointer (some ⟨q, 0, none⟩)] 28 (0, 0))) (sep (isLog q p L) (sep (isDisk p d2) (sep (kn I) A))))) := by simpa only [sep_comm, sep_lcomm, sep_assoc] using h6
        have e0 := h7.cell 0
        have ef := h7.unfrozen 0
        have H7 := Lib.hid h7
        clear h6 h7 he2 hd2 c0 q0 H5
        go_wp2_with fail
        have hj : appendJ d L b = (e2, d2, L.after e2) := by rw [HJ.out, HD.out]; simp
        rw [hj]
        exact jappend_door q p cl L e2 _ rfl HN.out (H7.out.setCell 0 (.int .i64 e2))
      · have b1 : (e1 != 0) = true := by simp [hne]
        have HNE := Lib.hid hne
        clear hne c0 q0
        go_wp2_with fail
        have hj : appendJ d L b = (e1, d1, L.after e1) := by rw [HJ.out, HD.out]; simp [HNE.out]
        rw [hj]
        exact jappend_door q p cl L e1 _ rfl HN.out (H5.out.setCell 0 (.int .i64 e1))
end Go.Proofs.YtdaknmcmjnbfeaaGreat
