/- Package title: move. -/
import Derived.Test.YtfapiopnjllnnaaGreatDoorGTitleApartST1
import Derived.Test.YtfapiopnjllnnaaGreatDoorReg8
namespace Go.Proofs.YtfapiopnjllnnaaGreatDoor
open Go.RowKit PA
/-- A boxed act that stands. -/
theorem act_cell {J : Mem} {B : Nat} {x : Ac} (hJ : J B = some (.cells x.cells.toArray 57 (0, 0))) {w' : World} (he : Ext J w') (i : Nat) : w'.cell? ⟨B, i, none⟩ = x.cells[i]? := by
  rw [cell_of_row w' B i _ _ _ (he _ _ hJ)]
  simp
def ptrIs (g : Nat) (v : Value) : Prop := v = .pointer (some ⟨g, 0, none⟩)
def rtU (r : Rt × Int) : List Value := [rtRes r, .agg #[.int .i64 r.1.n, .int .i64 r.1.d], .int .i64 r.2]
set_option maxRecDepth 100000 in
set_option maxHeartbeats 4000000 in
theorem move_spec {W w : World} {A : Assn} {p : Nat} {app : Int} {S : Shs} (x : Ac) (hx : okR x.sh = true) (hS : ShOk S) (h : Sat W w (sep (isT p app S) A)) :
    Calls Tryz.prog 55 #[.pointer (some ⟨p, 0, none⟩), .agg x.cells.toArray] w fun e w' => e = .returned (.bool (moveP S x).2) ∧ Sat W w' (sep (isT p app (moveP S x).1) A) := by
  obtain ⟨I, hk⟩ := h.know
  obtain ⟨J, hle, hJ, h1⟩ := (hk.alloc (.cells x.cells.toArray 57)).settle.learn
  obtain ⟨B, hB⟩ : ∃ B, B = w.heap.size := ⟨_, rfl⟩
  obtain ⟨w1, hw1⟩ : ∃ w1, w1 = w.alloc (.cells x.cells.toArray 57) := ⟨_, rfl⟩
  rw [← hB] at hJ
  rw [← hw1] at h1
  have HX : Hid (∀ w', Ext J w' → w'.cell? ⟨B, 5, none⟩ = some (.int .i64 x.p) ∧ w'.cell? ⟨B, 6, none⟩ = some (.int .i64 x.q) ∧ w'.cell? ⟨B, 9, none⟩ = some (.int .i64 x.sn) ∧ w'.cell? ⟨B, 10, none⟩ = some (.int .i64 x.sd)) :=
    Lib.hid fun w' he => ⟨act_cell hJ he 5, act_cell hJ he 6, act_cell hJ he 9, act_cell hJ he 10⟩
  have ha := RtB.of (okR_spec hx).1
  have hna := RtB.of (okR_spec (okR_neg hx)).1
  obtain ⟨lo, hlo⟩ : ∃ lo, lo = subR (shareP S x.p) x.sh := ⟨_, rfl⟩
  obtain ⟨mo, hmo⟩ : ∃ mo, mo = addR (shareP S x.q) x.sh := ⟨_, rfl⟩
  obtain ⟨res, hres⟩ : ∃ res, res = moveP S x := ⟨_, rfl⟩
  have hcase : res = if lo.2 ≠ 0 ∨ lo.1.n < 0 then (S, false) else if mo.2 ≠ 0 then (S, false) else (setSh (setSh S x.p lo.1) x.q mo.1, true) := by rw [hres, hlo, hmo]; rfl
  rw [← hres]
  have HC := Lib.hid hcase
  have HSUB : Hid (∀ w0 A0, Sat W w0 (sep (isT p app S) A0) → Calls Tryz.prog 23 #[.agg #[.int .i64 (shareP S x.p).n, .int .i64 (shareP S x.p).d], .agg #[.int .i64 x.sn, .int .i64 x.sd]] w0 fun e w' => ∃ v, e = .returned v ∧ Sat W w' (sep (sep (fact (v = rtRes lo)) (isT p app S)) A0)) :=
    Lib.hid fun w0 A0 h0 => (sub_spec (shareP S x.p) x.sh (RtB.of (okR_spec (hS.share _).1).1) ha hna h0).mono (by
      rintro e w' ⟨rfl, h2⟩
      exact ⟨_, rfl, by rw [sep_assoc]; exact Sat.fact.2 ⟨by rw [hlo], h2⟩⟩)
  have HADD : Hid (∀ w0 A0, Sat W w0 (sep (isT p app S) A0) → Calls Tryz.prog 24 #[.agg #[.int .i64 (shareP S x.q).n, .int .i64 (shareP S x.q).d], .agg #[.int .i64 x.sn, .int .i64 x.sd]] w0 fun e w' => ∃ v, e = .returned v ∧ Sat W w' (sep (sep (fact (v = rtRes mo)) (isT p app S)) A0)) :=
    Lib.hid fun w0 A0 h0 => (add_spec (shareP S x.q) x.sh (RtB.of (okR_spec (hS.share _).1).1) ha h0).mono (by
      rintro e w' ⟨rfl, h2⟩
      exact ⟨_, rfl, by rw [sep_assoc]; exact Sat.fact.2 ⟨by rw [hmo], h2⟩⟩)
  have HSH : ∀ q : Int, Hid (∀ w0 A0, Sat W w0 (sep (isT p app S) A0) → Calls Tryz.prog 47 #[.pointer (some ⟨p, 0, none⟩), .int .i64 q] w0 fun e w' => ∃ v, e = .returned v ∧ Sat W w' (sep (sep (fact (v = .agg #[.int .i64 (shareP S q).n, .int .i64 (shareP S q).d])) (isT p app S)) A0)) := fun q =>
    Lib.hid fun w0 A0 h0 => (share_spec q h0).mono (by
      rintro e w' ⟨rfl, h2⟩
      exact ⟨_, rfl, by rw [sep_assoc]; exact Sat.fact.2 ⟨rfl, h2⟩⟩)
  obtain ⟨s1, hs1⟩ : ∃ s1, s1 = shareP S x.p := ⟨_, rfl⟩
  obtain ⟨s2, hs2⟩ : ∃ s2, s2 = shareP S x.q := ⟨_, rfl⟩
  have HSP := HSH x.p
  have HSQ := HSH x.q
  rw [← hs1] at HSUB HSP
  rw [← hs2] at HADD HSQ
  have HB := Lib.hid hB
  have HW1 := Lib.hid hw1
  have HLE := Lib.hid hle
  clear hB hw1 hle hJ hk h hx hS ha hna hlo hmo hres hcase HSH hs1 hs2
  go_enter Tryz.func55, Tryz.ntmps55
  go_upto_region 1 with (fail)
  rw [← HB.out, ← HW1.out]
  have hd := h1.drew
  have HH1 := Lib.hid hd
  have hS0 := HX.out w1.drew hd.ext
  clear h1 hd
  refine wp_region_itemsJ rfl (fun w' => w'.cell? ⟨B, 5, none⟩ = some (.int .i64 x.p) ∧ w'.cell? ⟨B, 6, none⟩ = some (.int .i64 x.q) ∧ w'.cell? ⟨B, 9, none⟩ = some (.int .i64 x.sn) ∧ w'.cell? ⟨B, 10, none⟩ = some (.int .i64 x.sd)) [.one 0 .p, .one 1 .p, .one 2 .s, .one 4 .p, .one 5 .s, .grp true [(3, []), (6, [7, 8, 9]), (10, [])], .one 11 (.e false), .one 12 .p] (by kernel_rfl) ?_
  (repeat ((first | (refine J_p (v := ?_) rfl rfl (fun w' => ?_) ?_; rotate_left; (go_simp; with_reducible rfl)) | (refine J_s (v := ?_) rfl rfl hS0 (fun w' hS => ?_) ?_; rotate_left; ((try dsimp only at hS); go_simp; with_reducible rfl)) | (refine J_t (v := ?_) rfl rfl ?_ ?_; rotate_left; (go_simp; with_reducible rfl)) | (refine J_po rfl rfl ?_) | (refine J_so rfl rfl hS0 ?_) | (refine J_to rfl rfl ?_)); simp only [Act.put, List.setIfInBounds_toArray, List.set_cons_zero, List.set_cons_succ]))
  refine wpJ_threads (W := W) (A := sep (kn J) A) [⟨[(3, []), (6, [7, 8, 9])], twoA (isT p app S) (isT p app S) (isT p app S) (.agg #[.int .i64 s1.n, .int .i64 s1.d]) (rtRes lo) (rtU lo)⟩, ⟨[(10, [])], tailA emp ptrIs (fun g => blk g (.cells #[.int .i64 0, .int .i64 0] 44 (0, 0))) (fun _ => [])⟩]
    (fun _ w' X hX => HX.out w' (show Sat W w' (sep (kn J) (sep X A)) from hX.p1).ext) (by kernel_rfl) ?_ ?_ ?_
  · intro t ht
    simp only [List.mem_cons, List.not_mem_nil, or_false] at ht
    rcases ht with rfl | rfl
    · refine goodG_two (di := some 12) rfl rfl (by intro cs b h; cases h) rfl (by intro cs b h; cases h) (by kernel_rfl) (doesCall rfl 47 #[.pointer (some ⟨p, 0, none⟩), .int .i64 x.p] (fun w' => ?_) HSP.out) (doesCall rfl 23 #[.agg #[.int .i64 s1.n, .int .i64 s1.d], .agg #[.int .i64 x.sn, .int .i64 x.sd]] (fun w' => ?_) HSUB.out) (fun _ => rfl) (by kernel_rfl) ?_
      · (go_simp; try rfl)
      · (go_simp; try rfl)
      · refine ⟨⟨_, rfl, fun w' => ?_⟩, ⟨_, rfl, fun w' => ?_⟩, ⟨_, rfl, fun w' => ?_⟩, trivial⟩
        all_goals (unfold rtRes; go_simp; try rfl)
    · refine goodG_tail rfl (by intro cs b h; cases h) (doesAlloc rfl (fun w' => ?_)) rfl ?_
      · (go_simp; try rfl)
      · intro _ _ _; trivial
  · show Sat W w1.drew (sep emp (sep (isT p app S) (sep (kn J) A)))
    rw [emp_sep]
    exact HH1.out.p1
  · intro dn1 h1 dn2 h2 w7 h7
    obtain ⟨rfl, h8⟩ := twoA_done h1 rfl (show Sat W w7 (sep (twoA (isT p app S) (isT p app S) (isT p app S) (.agg #[.int .i64 s1.n, .int .i64 s1.d]) (rtRes lo) (rtU lo) (dn1.map (·.2))) (sep (tailA emp ptrIs (fun g => blk g (.cells #[.int .i64 0, .int .i64 0] 44 (0, 0))) (fun _ => []) (dn2.map (·.2))) (sep (kn J) A))) from h7.p1)
    obtain ⟨v10, g, rfl, hg, h9⟩ := tailA_done h2 (fun _ => rfl) (show Sat W w7 (sep (tailA emp ptrIs (fun g => blk g (.cells #[.int .i64 0, .int .i64 0] 44 (0, 0))) (fun _ => []) (dn2.map (·.2))) (sep (isT p app S) (sep (kn J) A))) from h8.p1)
    unfold ptrIs at hg
    subst hg
    change wpJ _ _ _ _ _ _ ((((((Act.put _ (some 12) (.agg #[.int .i64 s1.n, .int .i64 s1.d])).put (some 15) (rtRes lo)).put (some 8) (rtRes lo)).put (some 16) (.agg #[.int .i64 lo.1.n, .int .i64 lo.1.d])).put (some 17) (.int .i64 lo.2)).put (some 5) (.pointer (some ⟨g, 0, none⟩))) _
    simp only [Act.put, List.setIfInBounds_toArray, List.set_cons_zero, List.set_cons_succ]
    obtain ⟨⟨ln, ld⟩, le⟩ := lo
    simp only [rtRes]
    obtain ⟨k0, k1, k2, k3⟩ := rt2 h9
    have h10 := rt2_set h9 (.int .i64 ln) (.int .i64 ld)
    obtain ⟨w8, hw8⟩ : ∃ w8, w8 = (w7.setCell ⟨g, 0, none⟩ (.int .i64 ln)).setCell ⟨g, 1, none⟩ (.int .i64 ld) := ⟨_, rfl⟩
    rw [← hw8] at h10
    have HW8 := Lib.hid hw8
    have H10 := Lib.hid h10
    clear h1 h2 h7 h8 h9 hw8 h10 HH1 hS0
    (repeat ((first | (refine J_p (v := ?_) rfl rfl (fun w' => ?_) ?_; rotate_left; (go_simp; with_reducible rfl)) | (refine J_s (v := ?_) rfl rfl hS0 (fun w' hS => ?_) ?_; rotate_left; ((try dsimp only at hS); go_simp; with_reducible rfl)) | (refine J_t (v := ?_) rfl rfl ?_ ?_; rotate_left; (go_simp; with_reducible rfl)) | (refine J_po rfl rfl ?_) | (refine J_so rfl rfl hS0 ?_) | (refine J_to rfl rfl ?_)); simp only [Act.put, List.setIfInBounds_toArray, List.set_cons_zero, List.set_cons_succ]))
    (refine J_e rfl rfl (fun K hK => ?_); go_simp)
    rw [← HW8.out]
    (refine hK _ _ (fun h => by cases h) ?_; clear hK K; (try simp only [Act.put, List.setIfInBounds_toArray, List.set_cons_zero, List.set_cons_succ]))
    (repeat ((first | (refine J_p (v := ?_) rfl rfl (fun w' => ?_) ?_; rotate_left; (go_simp; with_reducible rfl)) | (refine J_s (v := ?_) rfl rfl hS0 (fun w' hS => ?_) ?_; rotate_left; ((try dsimp only at hS); go_simp; with_reducible rfl)) | (refine J_t (v := ?_) rfl rfl ?_ ?_; rotate_left; (go_simp; with_reducible rfl)) | (refine J_po rfl rfl ?_) | (refine J_so rfl rfl hS0 ?_) | (refine J_to rfl rfl ?_)); simp only [Act.put, List.setIfInBounds_toArray, List.set_cons_zero, List.set_cons_succ]))
    refine J_nil ?_
    clear k0 k1 k2 k3 HW8
    obtain ⟨j0, j1, -, -⟩ := rt2 H10.out
    by_cases c1 : le = 0
    · subst c1
      by_cases c2 : ln < 0
      · have hr : res = (S, false) := by rw [HC.out, if_pos (.inr c2)]
        have HR := Lib.hid hr
        clear hr
        go_wp2
        go_ret
        rw [HR.out]
        exact ⟨rfl, (H10.out.forget.p1.drop)⟩
      · go_wp2
        have hd := H10.out.drew
        obtain ⟨w9, hw9⟩ : ∃ w9, w9 = w8.drew := ⟨_, rfl⟩
        rw [← hw9] at hd
        have HW9 := Lib.hid hw9
        have HH2 : Hid (Sat W w9 (sep (isT p app S) (sep (kn J) (sep (blk g (.cells #[.int .i64 ln, .int .i64 ld] 44 (0, 0))) A)))) := Lib.hid (by simpa only [sep_comm, sep_lcomm, sep_assoc] using hd)
        have hS0 := HX.out w9 hd.p2.ext
        clear hw9 hd j0 j1 H10
        refine wp_region_itemsJ rfl (fun w' => w'.cell? ⟨B, 5, none⟩ = some (.int .i64 x.p) ∧ w'.cell? ⟨B, 6, none⟩ = some (.int .i64 x.q) ∧ w'.cell? ⟨B, 9, none⟩ = some (.int .i64 x.sn) ∧ w'.cell? ⟨B, 10, none⟩ = some (.int .i64 x.sd)) [.one 0 .p, .one 1 .p, .one 2 .s, .one 4 .p, .one 5 .s, .grp true [(3, []), (6, [7, 8, 9]), (10, [])], .one 11 (.e false), .one 12 .p] (by kernel_rfl) ?_
        rw [← HW9.out]
        (repeat ((first | (refine J_p (v := ?_) rfl rfl (fun w' => ?_) ?_; rotate_left; (go_simp; with_reducible rfl)) | (refine J_s (v := ?_) rfl rfl hS0 (fun w' hS => ?_) ?_; rotate_left; ((try dsimp only at hS); go_simp; with_reducible rfl)) | (refine J_t (v := ?_) rfl rfl ?_ ?_; rotate_left; (go_simp; with_reducible rfl)) | (refine J_po rfl rfl ?_) | (refine J_so rfl rfl hS0 ?_) | (refine J_to rfl rfl ?_)); simp only [Act.put, List.setIfInBounds_toArray, List.set_cons_zero, List.set_cons_succ]))
        refine wpJ_threads (W := W) (A := sep (kn J) (sep (blk g (.cells #[.int .i64 ln, .int .i64 ld] 44 (0, 0))) A)) [⟨[(3, []), (6, [7, 8, 9])], twoA (isT p app S) (isT p app S) (isT p app S) (.agg #[.int .i64 s2.n, .int .i64 s2.d]) (rtRes mo) (rtU mo)⟩, ⟨[(10, [])], tailA emp ptrIs (fun g => blk g (.cells #[.int .i64 0, .int .i64 0] 44 (0, 0))) (fun _ => [])⟩]
          (fun _ w' X hX => HX.out w' (show Sat W w' (sep (kn J) (sep X (sep (blk g (.cells #[.int .i64 ln, .int .i64 ld] 44 (0, 0))) A))) from hX.p1).ext) (by kernel_rfl) ?_ ?_ ?_
        · intro t ht
          simp only [List.mem_cons, List.not_mem_nil, or_false] at ht
          rcases ht with rfl | rfl
          · refine goodG_two (di := some 29) rfl rfl (by intro cs b h; cases h) rfl (by intro cs b h; cases h) (by kernel_rfl) (doesCall rfl 47 #[.pointer (some ⟨p, 0, none⟩), .int .i64 x.q] (fun w' => ?_) HSQ.out) (doesCall rfl 24 #[.agg #[.int .i64 s2.n, .int .i64 s2.d], .agg #[.int .i64 x.sn, .int .i64 x.sd]] (fun w' => ?_) HADD.out) (fun _ => rfl) (by kernel_rfl) ?_
            · (go_simp; try rfl)
            · (go_simp; try rfl)
            · refine ⟨⟨_, rfl, fun w' => ?_⟩, ⟨_, rfl, fun w' => ?_⟩, ⟨_, rfl, fun w' => ?_⟩, trivial⟩
              all_goals (unfold rtRes; go_simp; try rfl)
          · refine goodG_tail rfl (by intro cs b h; cases h) (doesAlloc rfl (fun w' => ?_)) rfl ?_
            · (go_simp; try rfl)
            · intro _ _ _; trivial
        · show Sat W w9 (sep emp (sep (isT p app S) (sep (kn J) (sep (blk g (.cells #[.int .i64 ln, .int .i64 ld] 44 (0, 0))) A))))
          rw [emp_sep]
          exact HH2.out
        · intro dn1 h1 dn2 h2 w10 h7
          obtain ⟨rfl, h8⟩ := twoA_done h1 rfl (show Sat W w10 (sep (twoA (isT p app S) (isT p app S) (isT p app S) (.agg #[.int .i64 s2.n, .int .i64 s2.d]) (rtRes mo) (rtU mo) (dn1.map (·.2))) (sep (tailA emp ptrIs (fun g => blk g (.cells #[.int .i64 0, .int .i64 0] 44 (0, 0))) (fun _ => []) (dn2.map (·.2))) (sep (kn J) (sep (blk g (.cells #[.int .i64 ln, .int .i64 ld] 44 (0, 0))) A)))) from h7.p1)
          obtain ⟨v10, g2, rfl, hg, h9⟩ := tailA_done h2 (fun _ => rfl) (show Sat W w10 (sep (tailA emp ptrIs (fun g => blk g (.cells #[.int .i64 0, .int .i64 0] 44 (0, 0))) (fun _ => []) (dn2.map (·.2))) (sep (isT p app S) (sep (kn J) (sep (blk g (.cells #[.int .i64 ln, .int .i64 ld] 44 (0, 0))) A)))) from h8.p1)
          unfold ptrIs at hg
          subst hg
          change wpJ _ _ _ _ _ _ ((((((Act.put _ (some 29) (.agg #[.int .i64 s2.n, .int .i64 s2.d])).put (some 32) (rtRes mo)).put (some 25) (rtRes mo)).put (some 33) (.agg #[.int .i64 mo.1.n, .int .i64 mo.1.d])).put (some 34) (.int .i64 mo.2)).put (some 7) (.pointer (some ⟨g2, 0, none⟩))) _
          simp only [Act.put, List.setIfInBounds_toArray, List.set_cons_zero, List.set_cons_succ]
          obtain ⟨⟨mn, md⟩, me⟩ := mo
          simp only [rtRes]
          obtain ⟨k0, k1, k2, k3⟩ := rt2 h9
          have h10 := rt2_set h9 (.int .i64 mn) (.int .i64 md)
          obtain ⟨w11, hw11⟩ : ∃ w11, w11 = (w10.setCell ⟨g2, 0, none⟩ (.int .i64 mn)).setCell ⟨g2, 1, none⟩ (.int .i64 md) := ⟨_, rfl⟩
          rw [← hw11] at h10
          have HW11 := Lib.hid hw11
          have H11 := Lib.hid h10
          clear h1 h2 h7 h8 h9 hw11 h10 HH2 hS0 HW9
          (repeat ((first | (refine J_p (v := ?_) rfl rfl (fun w' => ?_) ?_; rotate_left; (go_simp; with_reducible rfl)) | (refine J_s (v := ?_) rfl rfl hS0 (fun w' hS => ?_) ?_; rotate_left; ((try dsimp only at hS); go_simp; with_reducible rfl)) | (refine J_t (v := ?_) rfl rfl ?_ ?_; rotate_left; (go_simp; with_reducible rfl)) | (refine J_po rfl rfl ?_) | (refine J_so rfl rfl hS0 ?_) | (refine J_to rfl rfl ?_)); simp only [Act.put, List.setIfInBounds_toArray, List.set_cons_zero, List.set_cons_succ]))
          (refine J_e rfl rfl (fun K hK => ?_); go_simp)
          rw [← HW11.out]
          (refine hK _ _ (fun h => by cases h) ?_; clear hK K; (try simp only [Act.put, List.setIfInBounds_toArray, List.set_cons_zero, List.set_cons_succ]))
          (repeat ((first | (refine J_p (v := ?_) rfl rfl (fun w' => ?_) ?_; rotate_left; (go_simp; with_reducible rfl)) | (refine J_s (v := ?_) rfl rfl hS0 (fun w' hS => ?_) ?_; rotate_left; ((try dsimp only at hS); go_simp; with_reducible rfl)) | (refine J_t (v := ?_) rfl rfl ?_ ?_; rotate_left; (go_simp; with_reducible rfl)) | (refine J_po rfl rfl ?_) | (refine J_so rfl rfl hS0 ?_) | (refine J_to rfl rfl ?_)); simp only [Act.put, List.setIfInBounds_toArray, List.set_cons_zero, List.set_cons_succ]))
          refine J_nil ?_
          clear k0 k1 k2 k3 HW11
          by_cases c3 : me = 0
          · subst c3
            have hr : res = (setSh (setSh S x.p ⟨ln, ld⟩) x.q ⟨mn, md⟩, true) := by rw [HC.out, if_neg (by simpa using c2), if_neg (by simp)]
            have HR := Lib.hid hr
            clear hr
            go_wp2
            obtain ⟨b, n, hT⟩ := isT_open (show Sat W w11 (sep (isT p app S) (sep (blk g2 (.cells #[.int .i64 mn, .int .i64 md] 44 (0, 0))) (sep (kn J) (sep (blk g (.cells #[.int .i64 ln, .int .i64 ld] 44 (0, 0))) A)))) from H11.out.p1)
            have hd := hT.drew
            obtain ⟨wv, hwv⟩ : ∃ wv, wv = w11.drew := ⟨_, rfl⟩
            rw [← hwv] at hd
            have cp : wv.cell? ⟨p, 1, none⟩ = some (.map (some b)) := hd.cell 1
            have hb : Sat W wv (sep (bmap b (shV S) n) (sep (blk g2 (.cells #[.int .i64 mn, .int .i64 md] 44 (0, 0))) (sep (kn J) (sep (blk g (.cells #[.int .i64 ln, .int .i64 ld] 44 (0, 0))) (sep (blk p (.cells #[.int .i64 app, .map (some b)] 90 (0, 0))) A))))) := by simpa only [sep_comm, sep_lcomm, sep_assoc] using hd
            have hcl : ∀ w' Y, Sat W w' (sep Y (sep (blk g2 (.cells #[.int .i64 mn, .int .i64 md] 44 (0, 0))) (sep (kn J) (sep (blk g (.cells #[.int .i64 ln, .int .i64 ld] 44 (0, 0))) (sep (blk p (.cells #[.int .i64 app, .map (some b)] 90 (0, 0))) A))))) → w'.cell? ⟨B, 6, none⟩ = some (.int .i64 x.q) ∧ (w'.cell? ⟨g, 0, none⟩ = some (.int .i64 ln) ∧ w'.cell? ⟨g, 1, none⟩ = some (.int .i64 ld)) ∧ w'.cell? ⟨g2, 0, none⟩ = some (.int .i64 mn) ∧ w'.cell? ⟨g2, 1, none⟩ = some (.int .i64 md) := fun w' Y hY => by
              have e1 := hY.p2.ext
              have e2 := rt2 hY.p3
              have e3 := rt2 hY.p1
              exact ⟨(HX.out w' e1).2.1, ⟨e2.1, e2.2.1⟩, e3.1, e3.2.1⟩
            obtain ⟨v0, st, wa, X, hrE, hS1, f1⟩ := run_entry_bmap (P := Tryz.prog) (T := 88) Tryz.underlying88 Tryz.underlying3 zeroRatio hb x.p
            obtain ⟨wb, n1, hrS, hS2⟩ := f1 wa _ (rtV ⟨ln, ld⟩) hS1
            rw [shV_set] at hS2
            obtain ⟨v0', st', wc, X', hrE', hS3, f2⟩ := run_entry_bmap (P := Tryz.prog) (T := 88) Tryz.underlying88 Tryz.underlying3 zeroRatio hS2 x.q
            obtain ⟨wd, n2, hrS', hS4⟩ := f2 wc _ (rtV ⟨mn, md⟩) hS3
            rw [shV_set] at hS4
            unfold rtV at hrS hrS'
            have hS0 := hcl wv _ hb
            have z1 := hcl wa _ hS1
            have z2 := hcl wb _ hS2
            have z3 := hcl wc _ hS3
            have HZ := Lib.hid (And.intro z1 (And.intro z2 z3))
            have HFIN : Hid (Sat W wd (sep (isT p app (setSh (setSh S x.p ⟨ln, ld⟩) x.q ⟨mn, md⟩)) A)) := Lib.hid (by
              refine isT_mk (b := b) (n := n2) ?_
              have := ((hS4.p1.forget).p2.forget).p1.drop
              simpa only [sep_comm, sep_lcomm, sep_assoc] using this)
            have cB := (HX.out wv hb.p2.ext).1
            have HWV := Lib.hid hwv
            clear hT hd hb hcl hS1 f1 hS2 hS3 f2 hS4 z1 z2 z3 hwv H11
            refine wp_region_canon rfl (fun w' => w'.cell? ⟨B, 6, none⟩ = some (.int .i64 x.q) ∧ (w'.cell? ⟨g, 0, none⟩ = some (.int .i64 ln) ∧ w'.cell? ⟨g, 1, none⟩ = some (.int .i64 ld)) ∧ w'.cell? ⟨g2, 0, none⟩ = some (.int .i64 mn) ∧ w'.cell? ⟨g2, 1, none⟩ = some (.int .i64 md)) [(0, .p), (1, .p), (2, .p), (3, .t), (4, .p), (5, .t), (6, .p), (7, .p), (8, .p), (9, .t), (10, .p), (11, .s), (12, .s), (13, .s), (14, .e true), (15, .p), (16, .e true), (17, .e true), (18, .p), (19, .e false)] (by kernel_rfl) ?_
            rw [← HWV.out]
            (repeat ((first | (refine C_p (v := ?_) rfl rfl (fun w' => ?_) ?_; rotate_left; (go_simp; with_reducible rfl)) | (refine C_s (v := ?_) rfl rfl hS0 (fun w' hS => ?_) ?_; rotate_left; ((try dsimp only at hS); go_simp; with_reducible rfl)) | (refine C_t (v := ?_) rfl rfl ?_ ?_; rotate_left; (go_simp; with_reducible rfl)) | (refine C_po rfl rfl ?_) | (refine C_so rfl rfl hS0 ?_) | (refine C_to rfl rfl ?_)); simp only [Act.put, List.setIfInBounds_toArray, List.set_cons_zero, List.set_cons_succ]))
            clear cp cB
            (refine C_e rfl rfl (fun K hK => ?_); go_simp)
            (refine hK _ _ (fun _ => HZ.out.1) ?_; clear hK K; (try simp only [Act.put, List.setIfInBounds_toArray, List.set_cons_zero, List.set_cons_succ]))
            (repeat ((first | (refine C_p (v := ?_) rfl rfl (fun w' => ?_) ?_; rotate_left; (go_simp; with_reducible rfl)) | (refine C_s (v := ?_) rfl rfl hS0 (fun w' hS => ?_) ?_; rotate_left; ((try dsimp only at hS); go_simp; with_reducible rfl)) | (refine C_t (v := ?_) rfl rfl ?_ ?_; rotate_left; (go_simp; with_reducible rfl)) | (refine C_po rfl rfl ?_) | (refine C_so rfl rfl hS0 ?_) | (refine C_to rfl rfl ?_)); simp only [Act.put, List.setIfInBounds_toArray, List.set_cons_zero, List.set_cons_succ]))
            (refine C_e rfl rfl (fun K hK => ?_); go_simp)
            (refine hK _ _ (fun _ => HZ.out.2.1) ?_; clear hK K; (try simp only [Act.put, List.setIfInBounds_toArray, List.set_cons_zero, List.set_cons_succ]))
            (refine C_e rfl rfl (fun K hK => ?_); go_simp)
            (refine hK _ _ (fun _ => HZ.out.2.2) ?_; clear hK K; (try simp only [Act.put, List.setIfInBounds_toArray, List.set_cons_zero, List.set_cons_succ]))
            (repeat ((first | (refine C_p (v := ?_) rfl rfl (fun w' => ?_) ?_; rotate_left; (go_simp; with_reducible rfl)) | (refine C_s (v := ?_) rfl rfl hS0 (fun w' hS => ?_) ?_; rotate_left; ((try dsimp only at hS); go_simp; with_reducible rfl)) | (refine C_t (v := ?_) rfl rfl ?_ ?_; rotate_left; (go_simp; with_reducible rfl)) | (refine C_po rfl rfl ?_) | (refine C_so rfl rfl hS0 ?_) | (refine C_to rfl rfl ?_)); simp only [Act.put, List.setIfInBounds_toArray, List.set_cons_zero, List.set_cons_succ]))
            (refine C_e rfl rfl (fun K hK => ?_); go_simp)
            (refine hK _ _ (fun h => by cases h) ?_; clear hK K; (try simp only [Act.put, List.setIfInBounds_toArray, List.set_cons_zero, List.set_cons_succ]))
            refine C_nil ?_
            go_wp2
            go_ret
            rw [HR.out]
            exact ⟨rfl, HFIN.out⟩
          · have hz : (me != 0) = true := by simp [c3]
            have hr : res = (S, false) := by rw [HC.out, if_neg (by simpa using c2), if_pos c3]
            have HR := Lib.hid hr
            clear hr
            go_wp2
            go_ret
            rw [HR.out]
            exact ⟨rfl, (H11.out.forget.p1.drop.p1.forget)⟩
    · have hz : (le != 0) = true := by simp [c1]
      have hr : res = (S, false) := by rw [HC.out, if_pos (.inl c1)]
      have HR := Lib.hid hr
      clear hr
      go_wp2
      go_ret
      rw [HR.out]
      exact ⟨rfl, (H10.out.forget.p1.drop)⟩
end Go.Proofs.YtfapiopnjllnnaaGreatDoor
