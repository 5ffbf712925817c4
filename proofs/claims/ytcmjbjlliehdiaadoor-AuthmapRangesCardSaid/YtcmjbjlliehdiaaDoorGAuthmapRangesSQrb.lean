/- AuthmapRanges, the walk. -/
import Derived.Test.YtcmjbjlliehdiaaDoorGAuthmapRanges46
namespace Go.Proofs.YtcmjbjlliehdiaaDoor
open Go.RowKit PA
attribute [local go_sem] Oper.semAt_some
structure RY where
  pa : Option Addr
  n : Nat
  pc : Nat
  la : Option Addr
  nl : Nat
  lc : Nat
  ra : Option Addr
  nr : Nat
  rc : Nat
  sa : Option Addr
  ns : Nat
  sc : Nat
  J : Mem
def RY.prf (y : RY) : Value := .agg #[.slice y.la y.nl y.lc, .slice y.ra y.nr y.rc, .slice y.sa y.ns y.sc]
def rngOk (I : Mem) (PL : PrL) (PR : Prf) (er : Int) (y : RY) (v : Value) : Prop := v = .tuple #[.slice y.pa y.n y.pc, y.prf, .int .i64 er] ∧ Mem.le I y.J ∧ y.n = PL.length ∧ (rPairQ.slice 2).rel y.J [.slice y.pa y.n y.pc] PL ∧ prfR y.J y.prf PR
def ptrOk (g : Nat) (v : Value) : Prop := v = .pointer (some ⟨g, 0, none⟩)
theorem cellsJ {J : Mem} {q : Nat} {l : List Int} (h : J q = some (.cells (l.map (Value.int .i64)).toArray 3 (0, 0))) {w' : World} (he : Ext J w') (i : Nat) (hi : i < l.length) : w'.cell? ⟨q, i, none⟩ = some (.int .i64 l[i]) := by
  rw [cell_of_row w' q i _ _ _ (he _ _ h)]
  simp [hi]
set_option maxRecDepth 100000 in
set_option maxHeartbeats 16000000 in
theorem authmapRanges_walk (a0 : Option Addr) (len0 cap0 : Nat) (z0 : List Int) (a1 a2 a3 a4 : Int) (w : World) (hW : WholeOK w)
    (w0 : IsArg w a0 len0 cap0 z0) (w1 : (Lit.int .i64 a1).wf = true) (w2 : (Lit.int .i64 a2).wf = true) (_w3 : (Lit.int .i64 a3).wf = true) (_w4 : (Lit.int .i64 a4).wf = true) :
    Calls Tryd.prog 8 #[.slice a0 len0 cap0, .int .i64 a1, .int .i64 a2, .int .i64 a3, .int .i64 a4] w fun e w' => e = .returned (.bool true) ∧ Below w.heap.size w w' := by
  obtain ⟨ns, hns, hr0, h64⟩ := argI w0
  have HM1 := Lib.hid (made_kn a0 len0 cap0 ns 14 (by omega) hns h64 hr0 (Sat.startKn w))
  have HW := Lib.hid hW
  have hb1 := keyQ_range a1
  have hb2 := keyQ_range a2
  obtain ⟨k1, hk1⟩ : ∃ z, z = keyQ a1 := ⟨_, rfl⟩
  obtain ⟨k2, hk2⟩ : ∃ z, z = keyQ a2 := ⟨_, rfl⟩
  have HK1 := Lib.hid (fun (w' : World) (A : Assn) (h : Sat w w' A) => qkey_spec a1 (i64_of_wf w1) h)
  have HK2 := Lib.hid (fun (w' : World) (A : Assn) (h : Sat w w' A) => qkey_spec a2 (i64_of_wf w2) h)
  rw [← hk1] at HK1 hb1
  rw [← hk2] at HK2 hb2
  obtain ⟨lo, hlo⟩ : ∃ z, z = min k1 k2 := ⟨_, rfl⟩
  obtain ⟨hi, hhi⟩ : ∃ z, z = max k1 k2 := ⟨_, rfl⟩
  have elo : min k1 k2 = lo := hlo.symm
  have ehi : max k1 k2 = hi := hhi.symm
  clear hW w0 w1 w2 hns hr0 h64 hb1 hb2 hk1 hk2 hlo hhi
  go_enter Tryd.func8, Tryd.ntmps8
  go_wp2_with fail
  refine HM1.out.mono ?_
  rintro e w2 ⟨q1, J1, pa, pc, L, rfl, -, hLA, hLl, hLk, hJ1, hqR, hrL, hcL, h2⟩
  have c0 := hcL w2 h2.ext
  obtain ⟨nL, hnL⟩ : ∃ nL, nL = L.length := ⟨_, rfl⟩
  rw [← hnL] at c0 hrL hcL hLl
  have HF := Lib.hid (filled_lk HW.out pa nL pc L h2 hrL hnL (by omega) hLA hLk)
  have HL := Lib.hid (And.intro hLA (And.intro (show L.length ≤ 14 by omega) (And.intro hLk hqR)))
  have HJ1 := Lib.hid hJ1
  clear HM1 h2 hLA hLk hLl hqR hrL hcL hnL hJ1
  go_wp2_with fail
  refine HF.out.mono ?_
  rintro e w3 ⟨p1, rfl, h3⟩
  have HKA := Lib.hid (HK1.out w3 _ h3)
  clear HF h3 c0
  go_wp2_with fail
  refine HKA.out.mono ?_
  rintro e w4 ⟨rfl, h4⟩
  have HKB := Lib.hid (HK2.out w4 _ h4)
  clear HKA h4
  go_wp2_with fail
  refine HKB.out.mono ?_
  rintro e w5 ⟨rfl, h5⟩
  clear HKB HK1 HK2
  obtain ⟨FL, hFL⟩ : ∃ z, z = [lo, k1, 0, 4095, a3, -1, k1] := ⟨_, rfl⟩
  obtain ⟨SL, hSL⟩ : ∃ z, z = [hi, k1, 4095, 4095, a4, k2, 4096] := ⟨_, rfl⟩
  obtain ⟨qf, hqf⟩ : ∃ z, z = w5.heap.size := ⟨_, rfl⟩
  obtain ⟨w6, hw6⟩ : ∃ z, z = (w5.alloc (.cells #[.int .i64 lo, .int .i64 k1, .int .i64 0, .int .i64 4095, .int .i64 a3, .int .i64 (-1), .int .i64 k1] 3)).alloc (.cells #[.int .i64 hi, .int .i64 k1, .int .i64 4095, .int .i64 4095, .int .i64 a4, .int .i64 k2, .int .i64 4096] 3) := ⟨_, rfl⟩
  have h6 : Sat w w6 (sep (blk (qf + 1) (.cells (SL.map (Value.int .i64)).toArray 3 (0, 0))) (sep (blk qf (.cells (FL.map (Value.int .i64)).toArray 3 (0, 0))) (sep (isAM p1 (lkP L)) (sep (kn J1) emp)))) := by
    have h1 := (h5.alloc (.cells #[.int .i64 lo, .int .i64 k1, .int .i64 0, .int .i64 4095, .int .i64 a3, .int .i64 (-1), .int .i64 k1] 3)).alloc (.cells #[.int .i64 hi, .int .i64 k1, .int .i64 4095, .int .i64 4095, .int .i64 a4, .int .i64 k2, .int .i64 4096] 3)
    rw [World.size_alloc, ← hqf, ← hw6] at h1
    rw [hSL, hFL]
    exact h1
  obtain ⟨J2, hJ2, hbs, h7⟩ := (show Sat w w6 (sep (imm (qf + 1) (.cells (SL.map (Value.int .i64)).toArray 3 (0, 0))) (sep (kn J1) (sep (blk qf (.cells (FL.map (Value.int .i64)).toArray 3 (0, 0))) (sep (isAM p1 (lkP L)) emp)))) by simpa only [sep_comm, sep_lcomm, sep_assoc] using h6.settle).learn
  obtain ⟨J3, hJ3, hbf, h8⟩ := (show Sat w w6 (sep (imm qf (.cells (FL.map (Value.int .i64)).toArray 3 (0, 0))) (sep (kn J2) (sep (isAM p1 (lkP L)) emp))) by
    have := (show Sat w w6 (sep (blk qf (.cells (FL.map (Value.int .i64)).toArray 3 (0, 0))) (sep (kn J2) (sep (isAM p1 (lkP L)) emp))) by simpa only [sep_comm, sep_lcomm, sep_assoc] using h7).settle
    exact this).learn
  have HX := Lib.hid (And.intro hqf hw6)
  have hfl : FL.length = 7 := by rw [hFL]; rfl
  have hsl : SL.length = 7 := by rw [hSL]; rfl
  have HC := Lib.hid (And.intro hfl (And.intro hsl (And.intro hbf (hJ3 _ _ hbs))))
  have H8 := Lib.hid h8
  have HJ3 := Lib.hid (Mem.le_trans hJ2 hJ3)
  clear h5 h6 h7 h8 hbs hbf hJ2 hJ3 hFL hSL hqf hw6 hfl hsl
  go_upto_region 9 with (fail)
  rw [← HX.out.1, ← HX.out.2]
  go_wp2_with fail
  go_loopw [17] (fun iv wr => ∃ (j : Nat) (J : Mem), j ≤ 7 ∧ iv = .int .i64 (j : Nat) ∧ Hid (Mem.le J3 J) ∧ Hid (Sat w wr (sep (kn J) (sep (isAM p1 (lkP L)) emp)))) (fun iv _ => 7 - (intOf iv).toNat)
  case atStart => exact ⟨0, J3, by omega, rfl, Lib.hid (Mem.le_refl _), H8⟩
  case round =>
    clear H8
    obtain ⟨j, J, hj, rfl, HJ, HS⟩ := hrel
    by_cases hj7 : j < 7
    · have g1 : (j : Int) < 7 := by omega
      obtain ⟨f, hf⟩ : ∃ z, z = FL[j]'(by rw [HC.out.1]; exact hj7) := ⟨_, rfl⟩
      obtain ⟨s, hs⟩ : ∃ z, z = SL[j]'(by rw [HC.out.2.1]; exact hj7) := ⟨_, rfl⟩
      have HX2 : Hid (∀ w', Ext J w' → w'.cell? ⟨qf, j, none⟩ = some (.int .i64 f) ∧ w'.cell? ⟨qf + 1, j, none⟩ = some (.int .i64 s)) := Lib.hid (fun w' he => by
        have he3 : Ext J3 w' := fun b o hb => he b o (HJ.out b o hb)
        exact ⟨by rw [hf]; exact cellsJ HC.out.2.2.1 he3 j _, by rw [hs]; exact cellsJ HC.out.2.2.2 he3 j _⟩)
      clear hf hs
      obtain ⟨PL, hPL⟩ : ∃ z, z = rgL L f s := ⟨_, rfl⟩
      obtain ⟨PR, hPR⟩ : ∃ z, z = rgP L f s := ⟨_, rfl⟩
      obtain ⟨er, her⟩ : ∃ z, z = rgE f s := ⟨_, rfl⟩
      have hPl : PL.length ≤ 1000000 := by rw [hPL]; have := rgL_len L f s; have := HL.out.2.1; omega
      have hPS : PrfS PR := by rw [hPR]; exact rgP_S L f s
      have hce : er = 0 → checkP (rootN (lkP L)) f s PL PR = 0 := fun h0 => by
        rw [hPL, hPR]
        exact check_rg HL.out.1 (fun x hx => by have := (HL.out.2.2.1 x hx).2; omega) (by rw [← her]; exact h0)
      have HA1 : Hid (∀ (w' : World) (A' : Assn), Sat w w' (sep (sep (kn J) (isAM p1 (lkP L))) A') → Calls Tryd.prog 17 #[.pointer (some ⟨p1, 0, none⟩), .int .i64 f, .int .i64 s] w' fun e w'' => ∃ v, e = .returned v ∧ Sat w w'' (sep (PA.ex fun y : RY => sep (fact (rngOk J PL PR er y v)) (sep (kn y.J) (isAM p1 (lkP L)))) A')) := Lib.hid (by
        intro w' A' h'
        refine (arange_any HW.out p1 L HL.out.1 f s (show Sat w w' (sep (isAM p1 (lkP L)) (sep (kn J) A')) by simpa only [sep_comm, sep_lcomm, sep_assoc] using h')).mono ?_
        rintro e w'' ⟨pa, n, pc, la, nl, lc, ra, nr, rc, sa, ns, sc, J', hJ', rfl, hn, h1, h2, h3⟩
        rw [← hPL] at hn h1
        rw [← hPR] at h2
        exact ⟨_, rfl, fact_ex (⟨pa, n, pc, la, nl, lc, ra, nr, rc, sa, ns, sc, J'⟩ : RY) ⟨by rw [her]; rfl, hJ', hn, h1, h2⟩ (by simpa only [sep_comm, sep_lcomm, sep_assoc] using h3)⟩)
      have HA2 : Hid (∀ (J' : Mem) (w' : World) (A' : Assn), Mem.le J J' → Sat w w' (sep (kn J') A') → Calls Tryd.prog 28 #[.pointer (some ⟨q1, 0, none⟩), .int .i64 f, .int .i64 s] w' fun e w'' => ∃ v, e = .returned v ∧ Sat w w'' (sep (PA.ex fun y : RY => sep (fact (rngOk J' PL PR er y v)) (kn y.J)) A')) := Lib.hid (by
        intro J' w' A' hJJ h'
        refine (qrange_any q1 L HL.out.1 (by have := HL.out.2.1; omega) (fun x hx => by have := (HL.out.2.2.1 x hx).2; omega) f s (HL.out.2.2.2.mono (Mem.le_trans HJ3.out (Mem.le_trans HJ.out hJJ))) h').mono ?_
        rintro e w'' ⟨pa, n, pc, la, nl, lc, ra, nr, rc, sa, ns, sc, J'', hJ', rfl, hn, h1, h2, h3⟩
        rw [← hPL] at hn h1
        rw [← hPR] at h2
        exact ⟨_, rfl, fact_ex (⟨pa, n, pc, la, nl, lc, ra, nr, rc, sa, ns, sc, J''⟩ : RY) ⟨by rw [her]; rfl, hJ', hn, h1, h2⟩ h3⟩)
      have HP := Lib.hid (And.intro hPl (And.intro hPS hce))
      have hd : Sat w wr.drew (sep (kn J) (sep (isAM p1 (lkP L)) emp)) := HS.out.drew
      obtain ⟨wd, hwd⟩ : ∃ z, z = wr.drew := ⟨_, rfl⟩
      rw [← hwd] at hd
      have hS0 := HX2.out wd hd.ext
      have Hd := Lib.hid hd
      clear HS hPL hPR her hPl hPS hce hd
      go_wp2_with fail
      refine wp_region_itemsJ rfl (fun w' => w'.cell? ⟨qf, j, none⟩ = some (.int .i64 f) ∧ w'.cell? ⟨qf + 1, j, none⟩ = some (.int .i64 s)) [.one 0 .p, .one 1 .p, .one 2 .p, .one 3 .p, .one 4 .s, .one 5 .p, .one 6 .p, .one 7 .p, .one 8 .s, .grp true [(9, [10, 11, 12, 13]), (14, [])], .one 15 .p, .one 16 (.e false), .one 17 .p] (by kernel_rfl) ?_
      rw [← hwd]
      clear hwd
      (repeat (first | (refine J_p (v := ?_) rfl rfl (fun w' => ?_) ?_; rotate_left; (go_simp; with_reducible rfl); simp only [Act.put, List.setIfInBounds_toArray, List.set_cons_zero, List.set_cons_succ]) | (refine J_s (v := ?_) rfl rfl hS0 (fun w' hS => ?_) ?_; rotate_left; ((try dsimp only at hS); go_simp; with_reducible rfl); simp only [Act.put, List.setIfInBounds_toArray, List.set_cons_zero, List.set_cons_succ]) | (refine J_t (v := ?_) rfl rfl ?_ ?_; rotate_left; (go_simp; with_reducible rfl); simp only [Act.put, List.setIfInBounds_toArray, List.set_cons_zero, List.set_cons_succ]) | (refine J_po rfl rfl ?_; simp only [Act.put, List.setIfInBounds_toArray, List.set_cons_zero, List.set_cons_succ]) | (refine J_so rfl rfl hS0 ?_; simp only [Act.put, List.setIfInBounds_toArray, List.set_cons_zero, List.set_cons_succ]) | (refine J_to rfl rfl ?_; simp only [Act.put, List.setIfInBounds_toArray, List.set_cons_zero, List.set_cons_succ])))
      refine wpJ_threads (W := w) (A := sep (kn J) emp) [⟨[(9, [10, 11, 12, 13])], tailA (sep (kn J) (isAM p1 (lkP L))) (rngOk J PL PR er) (fun y => sep (kn y.J) (isAM p1 (lkP L))) tup3⟩, ⟨[(14, [])], tailA emp ptrOk (fun g => blk g (.cells #[.slice none 0 0, .slice none 0 0, .slice none 0 0] 40 (0, 0))) (fun _ => [])⟩]
        (fun _ w' X hX => HX2.out w' (show Sat w w' (sep (kn J) (sep X emp)) from hX.p1).ext) (by kernel_rfl) ?_ ?_ ?_
      · intro t ht
        simp only [List.mem_cons, List.not_mem_nil, or_false] at ht
        rcases ht with rfl | rfl
        · refine goodG_tail rfl (by intro cs b h; cases h) (does_call rfl 17 #[.pointer (some ⟨p1, 0, none⟩), .int .i64 f, .int .i64 s] (fun w' => ?_) HA1.out) (by kernel_rfl) ?_
          · (go_simp; try rfl)
          · rintro y v ⟨rfl, -⟩
            refine ⟨⟨_, rfl, fun w' => ?_⟩, ⟨_, rfl, fun w' => ?_⟩, ⟨_, rfl, fun w' => ?_⟩, ⟨_, rfl, fun w' => ?_⟩, trivial⟩
            all_goals (go_simp; try rfl)
        · refine goodG_tail rfl (by intro cs b h; cases h) (does_alloc rfl (fun w' => ?_)) rfl ?_
          · (go_simp; try rfl)
          · intro _ _ _; trivial
      · show Sat w wd (sep emp (sep (sep (kn J) (isAM p1 (lkP L))) (sep (kn J) emp)))
        rw [emp_sep]
        have : Sat w wd (sep (kn J) (sep (kn J) (sep (isAM p1 (lkP L)) emp))) := Hd.out.dup
        simpa only [sep_comm, sep_lcomm, sep_assoc] using this
      · intro dn1 h1 dn2 h2 w7 h7
        obtain ⟨v9, y, rfl, ⟨rfl, hyJ, hyn, hyr, hyp⟩, h8⟩ := tailA_done h1 tup3_len (show Sat w w7 (sep (tailA (sep (kn J) (isAM p1 (lkP L))) (rngOk J PL PR er) (fun y => sep (kn y.J) (isAM p1 (lkP L))) tup3 (dn1.map (·.2))) (sep (tailA emp ptrOk (fun g => blk g (.cells #[.slice none 0 0, .slice none 0 0, .slice none 0 0] 40 (0, 0))) (fun _ => []) (dn2.map (·.2))) (sep (kn J) emp))) from h7.p1)
        obtain ⟨v14, g, rfl, hg, h9⟩ := tailA_done h2 (fun _ => rfl) (show Sat w w7 (sep (tailA emp ptrOk (fun g => blk g (.cells #[.slice none 0 0, .slice none 0 0, .slice none 0 0] 40 (0, 0))) (fun _ => []) (dn2.map (·.2))) (sep (sep (kn y.J) (isAM p1 (lkP L))) (sep (kn J) emp))) from h8.p1)
        unfold ptrOk at hg
        subst hg
        obtain ⟨ya, yn, yc, la, nl, lc, ra, nr, rc, sa, nS, sc, Jy⟩ := y
        replace hyJ : Mem.le J Jy := hyJ
        replace hyn : yn = PL.length := hyn
        replace hyr : (rPairQ.slice 2).rel Jy [.slice ya yn yc] PL := hyr
        replace hyp : prfR Jy (.agg #[.slice la nl lc, .slice ra nr rc, .slice sa nS sc]) PR := hyp
        replace h9 : Sat w w7 (sep (blk g (.cells #[.slice none 0 0, .slice none 0 0, .slice none 0 0] 40 (0, 0))) (sep (sep (kn Jy) (isAM p1 (lkP L))) (sep (kn J) emp))) := h9
        change wpJ _ _ _ _ _ _ ((((((Act.put _ (some 67) (.tuple #[.slice ya yn yc, .agg #[.slice la nl lc, .slice ra nr rc, .slice sa nS sc], .int .i64 er])).put (some 57) (.tuple #[.slice ya yn yc, .agg #[.slice la nl lc, .slice ra nr rc, .slice sa nS sc], .int .i64 er])).put (some 68) (.slice ya yn yc)).put (some 69) (.agg #[.slice la nl lc, .slice ra nr rc, .slice sa nS sc])).put (some 70) (.int .i64 er)).put (some 19) (.pointer (some ⟨g, 0, none⟩))) _
        simp only [Act.put, List.setIfInBounds_toArray, List.set_cons_zero, List.set_cons_succ]
        have v0 := h9.unfrozen 0
        have v1 := h9.unfrozen 1
        have v2 := h9.unfrozen 2
        have s0 : w7.cell? ⟨g, 0, none⟩ = some (.slice none 0 0) := h9.cell 0
        have s1 : w7.cell? ⟨g, 1, none⟩ = some (.slice none 0 0) := h9.cell 1
        have s2 : w7.cell? ⟨g, 2, none⟩ = some (.slice none 0 0) := h9.cell 2
        have h10 : Sat w (((w7.setCell ⟨g, 0, none⟩ (.slice la nl lc)).setCell ⟨g, 1, none⟩ (.slice ra nr rc)).setCell ⟨g, 2, none⟩ (.slice sa nS sc)) (sep (blk g (.cells #[.slice la nl lc, .slice ra nr rc, .slice sa nS sc] 40 (0, 0))) (sep (kn Jy) (sep (isAM p1 (lkP L)) emp))) := by
          have := ((h9.setCell 0 (.slice la nl lc)).setCell 1 (.slice ra nr rc)).setCell 2 (.slice sa nS sc)
          have h2 := (show Sat w _ (sep (blk g (.cells #[.slice la nl lc, .slice ra nr rc, .slice sa nS sc] 40 (0, 0))) (sep (sep (kn Jy) (isAM p1 (lkP L))) (sep (kn J) emp))) from this).p2.drop
          simpa only [sep_assoc] using h2
        obtain ⟨w8, hw8⟩ : ∃ z, z = (((w7.setCell ⟨g, 0, none⟩ (.slice la nl lc)).setCell ⟨g, 1, none⟩ (.slice ra nr rc)).setCell ⟨g, 2, none⟩ (.slice sa nS sc)) := ⟨_, rfl⟩
        rw [← hw8] at h10
        have HW8 := Lib.hid hw8
        have HY := Lib.hid (And.intro hyJ (And.intro hyn (And.intro hyr hyp)))
        have H10 := Lib.hid h10
        clear h1 h2 h7 h8 h9 h10 hw8 hyJ hyn hyr hyp Hd HA1 hS0
        (repeat (first | (refine J_p (v := ?_) rfl rfl (fun w' => ?_) ?_; rotate_left; (go_simp; with_reducible rfl); simp only [Act.put, List.setIfInBounds_toArray, List.set_cons_zero, List.set_cons_succ]) | (refine J_s (v := ?_) rfl rfl hS0 (fun w' hS => ?_) ?_; rotate_left; ((try dsimp only at hS); go_simp; with_reducible rfl); simp only [Act.put, List.setIfInBounds_toArray, List.set_cons_zero, List.set_cons_succ]) | (refine J_t (v := ?_) rfl rfl ?_ ?_; rotate_left; (go_simp; with_reducible rfl); simp only [Act.put, List.setIfInBounds_toArray, List.set_cons_zero, List.set_cons_succ]) | (refine J_po rfl rfl ?_; simp only [Act.put, List.setIfInBounds_toArray, List.set_cons_zero, List.set_cons_succ]) | (refine J_so rfl rfl hS0 ?_; simp only [Act.put, List.setIfInBounds_toArray, List.set_cons_zero, List.set_cons_succ]) | (refine J_to rfl rfl ?_; simp only [Act.put, List.setIfInBounds_toArray, List.set_cons_zero, List.set_cons_succ])))
        (refine J_e rfl rfl (fun K hK => ?_); go_simp)
        rw [← HW8.out]
        (refine hK _ _ (fun h => by cases h) ?_; clear hK K; (try simp only [Act.put, List.setIfInBounds_toArray, List.set_cons_zero, List.set_cons_succ]))
        (repeat (first | (refine J_p (v := ?_) rfl rfl (fun w' => ?_) ?_; rotate_left; (go_simp; with_reducible rfl); simp only [Act.put, List.setIfInBounds_toArray, List.set_cons_zero, List.set_cons_succ]) | (refine J_s (v := ?_) rfl rfl hS0 (fun w' hS => ?_) ?_; rotate_left; ((try dsimp only at hS); go_simp; with_reducible rfl); simp only [Act.put, List.setIfInBounds_toArray, List.set_cons_zero, List.set_cons_succ]) | (refine J_t (v := ?_) rfl rfl ?_ ?_; rotate_left; (go_simp; with_reducible rfl); simp only [Act.put, List.setIfInBounds_toArray, List.set_cons_zero, List.set_cons_succ]) | (refine J_po rfl rfl ?_; simp only [Act.put, List.setIfInBounds_toArray, List.set_cons_zero, List.set_cons_succ]) | (refine J_so rfl rfl hS0 ?_; simp only [Act.put, List.setIfInBounds_toArray, List.set_cons_zero, List.set_cons_succ]) | (refine J_to rfl rfl ?_; simp only [Act.put, List.setIfInBounds_toArray, List.set_cons_zero, List.set_cons_succ])))
        refine J_nil ?_
        clear v0 v1 v2 s0 s1 s2 HW8
        have hd : Sat w w8.drew (sep (kn Jy) (sep (blk g (.cells #[.slice la nl lc, .slice ra nr rc, .slice sa nS sc] 40 (0, 0))) (sep (isAM p1 (lkP L)) emp))) := H10.out.drew.p1
        obtain ⟨wd2, hwd2⟩ : ∃ z, z = w8.drew := ⟨_, rfl⟩
        rw [← hwd2] at hd
        have HJy : Hid (∀ w', Ext Jy w' → w'.cell? ⟨qf, j, none⟩ = some (.int .i64 f) ∧ w'.cell? ⟨qf + 1, j, none⟩ = some (.int .i64 s)) := Lib.hid (fun w' he => HX2.out w' (fun b o hb => he b o (HY.out.1 b o hb)))
        have hS0 := HJy.out wd2 hd.ext
        have HA3 := Lib.hid (fun (w' : World) (A' : Assn) (h' : Sat w w' (sep (kn Jy) A')) => HA2.out Jy w' A' HY.out.1 h')
        have Hd := Lib.hid hd
        clear hd H10 HA2 HX2
        go_wp2_with fail
        refine wp_region_itemsJ rfl (fun w' => w'.cell? ⟨qf, j, none⟩ = some (.int .i64 f) ∧ w'.cell? ⟨qf + 1, j, none⟩ = some (.int .i64 s)) [.one 0 .p, .one 1 .p, .one 2 .p, .one 3 .p, .one 4 .s, .one 5 .p, .one 6 .p, .one 7 .p, .one 8 .s, .grp true [(9, [10, 11, 12, 13]), (14, [])], .one 15 .p, .one 16 (.e false), .one 17 .p] (by kernel_rfl) ?_
        rw [← hwd2]
        clear hwd2
        (repeat (first | (refine J_p (v := ?_) rfl rfl (fun w' => ?_) ?_; rotate_left; (go_simp; with_reducible rfl); simp only [Act.put, List.setIfInBounds_toArray, List.set_cons_zero, List.set_cons_succ]) | (refine J_s (v := ?_) rfl rfl hS0 (fun w' hS => ?_) ?_; rotate_left; ((try dsimp only at hS); go_simp; with_reducible rfl); simp only [Act.put, List.setIfInBounds_toArray, List.set_cons_zero, List.set_cons_succ]) | (refine J_t (v := ?_) rfl rfl ?_ ?_; rotate_left; (go_simp; with_reducible rfl); simp only [Act.put, List.setIfInBounds_toArray, List.set_cons_zero, List.set_cons_succ]) | (refine J_po rfl rfl ?_; simp only [Act.put, List.setIfInBounds_toArray, List.set_cons_zero, List.set_cons_succ]) | (refine J_so rfl rfl hS0 ?_; simp only [Act.put, List.setIfInBounds_toArray, List.set_cons_zero, List.set_cons_succ]) | (refine J_to rfl rfl ?_; simp only [Act.put, List.setIfInBounds_toArray, List.set_cons_zero, List.set_cons_succ])))
        refine wpJ_threads (W := w) (A := sep (kn Jy) (sep (blk g (.cells #[.slice la nl lc, .slice ra nr rc, .slice sa nS sc] 40 (0, 0))) (sep (isAM p1 (lkP L)) emp))) [⟨[(9, [10, 11, 12, 13])], tailA (kn Jy) (rngOk Jy PL PR er) (fun y => kn y.J) tup3⟩, ⟨[(14, [])], tailA emp ptrOk (fun g => blk g (.cells #[.slice none 0 0, .slice none 0 0, .slice none 0 0] 49 (0, 0))) (fun _ => [])⟩]
          (fun _ w' X hX => HJy.out w' (show Sat w w' (sep (kn Jy) (sep X _)) from hX.p1).ext) (by kernel_rfl) ?_ ?_ ?_
        · intro t ht
          simp only [List.mem_cons, List.not_mem_nil, or_false] at ht
          rcases ht with rfl | rfl
          · refine goodG_tail rfl (by intro cs b h; cases h) (does_call rfl 28 #[.pointer (some ⟨q1, 0, none⟩), .int .i64 f, .int .i64 s] (fun w' => ?_) HA3.out) (by kernel_rfl) ?_
            · (go_simp; try rfl)
            · rintro y v ⟨rfl, -⟩
              refine ⟨⟨_, rfl, fun w' => ?_⟩, ⟨_, rfl, fun w' => ?_⟩, ⟨_, rfl, fun w' => ?_⟩, ⟨_, rfl, fun w' => ?_⟩, trivial⟩
              all_goals (go_simp; try rfl)
          · refine goodG_tail rfl (by intro cs b h; cases h) (does_alloc rfl (fun w' => ?_)) rfl ?_
            · (go_simp; try rfl)
            · intro _ _ _; trivial
        · show Sat w wd2 (sep emp (sep (kn Jy) (sep (kn Jy) (sep (blk g (.cells #[.slice la nl lc, .slice ra nr rc, .slice sa nS sc] 40 (0, 0))) (sep (isAM p1 (lkP L)) emp)))))
          rw [emp_sep]
          exact Hd.out.dup
        · intro dn1 h1 dn2 h2 w9 h7
          obtain ⟨v9, y, rfl, ⟨rfl, hyJ, hyn, hyr, hyp⟩, h8⟩ := tailA_done h1 tup3_len (show Sat w w9 (sep (tailA (kn Jy) (rngOk Jy PL PR er) (fun y => kn y.J) tup3 (dn1.map (·.2))) (sep (tailA emp ptrOk (fun g => blk g (.cells #[.slice none 0 0, .slice none 0 0, .slice none 0 0] 49 (0, 0))) (fun _ => []) (dn2.map (·.2))) (sep (kn Jy) (sep (blk g (.cells #[.slice la nl lc, .slice ra nr rc, .slice sa nS sc] 40 (0, 0))) (sep (isAM p1 (lkP L)) emp))))) from h7.p1)
          obtain ⟨v14, g2, rfl, hg, h9⟩ := tailA_done h2 (fun _ => rfl) (show Sat w w9 (sep (tailA emp ptrOk (fun g => blk g (.cells #[.slice none 0 0, .slice none 0 0, .slice none 0 0] 49 (0, 0))) (fun _ => []) (dn2.map (·.2))) (sep (kn y.J) (sep (kn Jy) (sep (blk g (.cells #[.slice la nl lc, .slice ra nr rc, .slice sa nS sc] 40 (0, 0))) (sep (isAM p1 (lkP L)) emp))))) from h8.p1)
          unfold ptrOk at hg
          subst hg
          obtain ⟨yb, ym, yd, lb, ml, ld, rb, mr, rd, sb, mS, sd, Jz⟩ := y
          replace hyJ : Mem.le Jy Jz := hyJ
          replace hyn : ym = PL.length := hyn
          replace hyr : (rPairQ.slice 2).rel Jz [.slice yb ym yd] PL := hyr
          replace hyp : prfR Jz (.agg #[.slice lb ml ld, .slice rb mr rd, .slice sb mS sd]) PR := hyp
          replace h9 : Sat w w9 (sep (blk g2 (.cells #[.slice none 0 0, .slice none 0 0, .slice none 0 0] 49 (0, 0))) (sep (kn Jz) (sep (kn Jy) (sep (blk g (.cells #[.slice la nl lc, .slice ra nr rc, .slice sa nS sc] 40 (0, 0))) (sep (isAM p1 (lkP L)) emp))))) := h9
          change wpJ _ _ _ _ _ _ ((((((Act.put _ (some 81) (.tuple #[.slice yb ym yd, .agg #[.slice lb ml ld, .slice rb mr rd, .slice sb mS sd], .int .i64 er])).put (some 71) (.tuple #[.slice yb ym yd, .agg #[.slice lb ml ld, .slice rb mr rd, .slice sb mS sd], .int .i64 er])).put (some 82) (.slice yb ym yd)).put (some 83) (.agg #[.slice lb ml ld, .slice rb mr rd, .slice sb mS sd])).put (some 84) (.int .i64 er)).put (some 22) (.pointer (some ⟨g2, 0, none⟩))) _
          simp only [Act.put, List.setIfInBounds_toArray, List.set_cons_zero, List.set_cons_succ]
          have v0 := h9.unfrozen 0
          have v1 := h9.unfrozen 1
          have v2 := h9.unfrozen 2
          have s0 : w9.cell? ⟨g2, 0, none⟩ = some (.slice none 0 0) := h9.cell 0
          have s1 : w9.cell? ⟨g2, 1, none⟩ = some (.slice none 0 0) := h9.cell 1
          have s2 : w9.cell? ⟨g2, 2, none⟩ = some (.slice none 0 0) := h9.cell 2
          have h10 : Sat w (((w9.setCell ⟨g2, 0, none⟩ (.slice lb ml ld)).setCell ⟨g2, 1, none⟩ (.slice rb mr rd)).setCell ⟨g2, 2, none⟩ (.slice sb mS sd)) (sep (blk g2 (.cells #[.slice lb ml ld, .slice rb mr rd, .slice sb mS sd] 49 (0, 0))) (sep (kn Jz) (sep (blk g (.cells #[.slice la nl lc, .slice ra nr rc, .slice sa nS sc] 40 (0, 0))) (sep (isAM p1 (lkP L)) emp)))) := by
            have := ((h9.setCell 0 (.slice lb ml ld)).setCell 1 (.slice rb mr rd)).setCell 2 (.slice sb mS sd)
            exact (show Sat w _ (sep (blk g2 (.cells #[.slice lb ml ld, .slice rb mr rd, .slice sb mS sd] 49 (0, 0))) (sep (kn Jz) (sep (kn Jy) (sep (blk g (.cells #[.slice la nl lc, .slice ra nr rc, .slice sa nS sc] 40 (0, 0))) (sep (isAM p1 (lkP L)) emp))))) from this).p2.drop
          obtain ⟨w10, hw10⟩ : ∃ z, z = (((w9.setCell ⟨g2, 0, none⟩ (.slice lb ml ld)).setCell ⟨g2, 1, none⟩ (.slice rb mr rd)).setCell ⟨g2, 2, none⟩ (.slice sb mS sd)) := ⟨_, rfl⟩
          rw [← hw10] at h10
          have HW10 := Lib.hid hw10
          have HZ := Lib.hid (And.intro hyJ (And.intro hyn (And.intro hyr hyp)))
          have H10 := Lib.hid h10
          clear h1 h2 h7 h8 h9 h10 hw10 hyJ hyn hyr hyp Hd HA3 hS0
          (repeat (first | (refine J_p (v := ?_) rfl rfl (fun w' => ?_) ?_; rotate_left; (go_simp; with_reducible rfl); simp only [Act.put, List.setIfInBounds_toArray, List.set_cons_zero, List.set_cons_succ]) | (refine J_s (v := ?_) rfl rfl hS0 (fun w' hS => ?_) ?_; rotate_left; ((try dsimp only at hS); go_simp; with_reducible rfl); simp only [Act.put, List.setIfInBounds_toArray, List.set_cons_zero, List.set_cons_succ]) | (refine J_t (v := ?_) rfl rfl ?_ ?_; rotate_left; (go_simp; with_reducible rfl); simp only [Act.put, List.setIfInBounds_toArray, List.set_cons_zero, List.set_cons_succ]) | (refine J_po rfl rfl ?_; simp only [Act.put, List.setIfInBounds_toArray, List.set_cons_zero, List.set_cons_succ]) | (refine J_so rfl rfl hS0 ?_; simp only [Act.put, List.setIfInBounds_toArray, List.set_cons_zero, List.set_cons_succ]) | (refine J_to rfl rfl ?_; simp only [Act.put, List.setIfInBounds_toArray, List.set_cons_zero, List.set_cons_succ])))
          (refine J_e rfl rfl (fun K hK => ?_); go_simp)
          rw [← HW10.out]
          (refine hK _ _ (fun h => by cases h) ?_; clear hK K; (try simp only [Act.put, List.setIfInBounds_toArray, List.set_cons_zero, List.set_cons_succ]))
          (repeat (first | (refine J_p (v := ?_) rfl rfl (fun w' => ?_) ?_; rotate_left; (go_simp; with_reducible rfl); simp only [Act.put, List.setIfInBounds_toArray, List.set_cons_zero, List.set_cons_succ]) | (refine J_s (v := ?_) rfl rfl hS0 (fun w' hS => ?_) ?_; rotate_left; ((try dsimp only at hS); go_simp; with_reducible rfl); simp only [Act.put, List.setIfInBounds_toArray, List.set_cons_zero, List.set_cons_succ]) | (refine J_t (v := ?_) rfl rfl ?_ ?_; rotate_left; (go_simp; with_reducible rfl); simp only [Act.put, List.setIfInBounds_toArray, List.set_cons_zero, List.set_cons_succ]) | (refine J_po rfl rfl ?_; simp only [Act.put, List.setIfInBounds_toArray, List.set_cons_zero, List.set_cons_succ]) | (refine J_so rfl rfl hS0 ?_; simp only [Act.put, List.setIfInBounds_toArray, List.set_cons_zero, List.set_cons_succ]) | (refine J_to rfl rfl ?_; simp only [Act.put, List.setIfInBounds_toArray, List.set_cons_zero, List.set_cons_succ])))
          refine J_nil ?_
          clear v0 v1 v2 s0 s1 s2 HW10
          have hd := H10.out.drew
          obtain ⟨wd3, hwd3⟩ : ∃ z, z = w10.drew := ⟨_, rfl⟩
          rw [← hwd3] at hd
          have HWD := Lib.hid hwd3
          have hS0 : wd3.cell? ⟨g2, 0, none⟩ = some (.slice lb ml ld) ∧ wd3.cell? ⟨g2, 1, none⟩ = some (.slice rb mr rd) ∧ wd3.cell? ⟨g2, 2, none⟩ = some (.slice sb mS sd) := ⟨hd.cell 0, hd.cell 1, hd.cell 2⟩
          have HP1 := Lib.hid (plain_spec (.slice ya yn yc) PL hd.p1 ((rPairQ.slice 2).mono HZ.out.1 HY.out.2.2.1) HP.out.1)
          have gne : (er != er) = false := by simp
          clear hd hwd3 H10
          go_wp2_with fail
          refine wp_region_canon rfl (fun w' => w'.cell? ⟨g2, 0, none⟩ = some (.slice lb ml ld) ∧ w'.cell? ⟨g2, 1, none⟩ = some (.slice rb mr rd) ∧ w'.cell? ⟨g2, 2, none⟩ = some (.slice sb mS sd)) [(0, .p), (1, .p), (2, .p), (3, .p), (4, .p), (6, .p), (5, .e true), (7, .e true), (8, .p), (9, .p), (10, .p), (11, .t), (13, .s), (12, .e true), (14, .e false), (15, .p), (16, .p)] (by kernel_rfl) ?_
          rw [← HWD.out]
          (repeat (first | (refine C_p (v := ?_) rfl rfl (fun w' => ?_) ?_; rotate_left; (go_simp; with_reducible rfl); simp only [Act.put, List.setIfInBounds_toArray, List.set_cons_zero, List.set_cons_succ]) | (refine C_s (v := ?_) rfl rfl hS0 (fun w' hS => ?_) ?_; rotate_left; ((try dsimp only at hS); go_simp; with_reducible rfl); simp only [Act.put, List.setIfInBounds_toArray, List.set_cons_zero, List.set_cons_succ]) | (refine C_t (v := ?_) rfl rfl ?_ ?_; rotate_left; (go_simp; with_reducible rfl); simp only [Act.put, List.setIfInBounds_toArray, List.set_cons_zero, List.set_cons_succ]) | (refine C_po rfl rfl ?_; simp only [Act.put, List.setIfInBounds_toArray, List.set_cons_zero, List.set_cons_succ]) | (refine C_so rfl rfl hS0 ?_; simp only [Act.put, List.setIfInBounds_toArray, List.set_cons_zero, List.set_cons_succ]) | (refine C_to rfl rfl ?_; simp only [Act.put, List.setIfInBounds_toArray, List.set_cons_zero, List.set_cons_succ])))
          (refine C_e rfl rfl (fun K hK => ?_); go_simp)
          refine HP1.out.mono ?_
          rintro e w11 ⟨na, nc, K3, rfl, hK3, hq1, h11⟩
          have hsp := samePairs_spec _ _ PL PL h11 hq1 ((rPairQ.slice 2).mono hK3 HZ.out.2.2.1)
          rw [decide_eq_true rfl] at hsp
          have HSP := Lib.hid hsp
          have HK3 := Lib.hid (Mem.le_trans HZ.out.1 hK3)
          have HK3z := Lib.hid hK3
          have hS1 : w11.cell? ⟨g2, 0, none⟩ = some (.slice lb ml ld) ∧ w11.cell? ⟨g2, 1, none⟩ = some (.slice rb mr rd) ∧ w11.cell? ⟨g2, 2, none⟩ = some (.slice sb mS sd) := ⟨h11.p1.cell 0, h11.p1.cell 1, h11.p1.cell 2⟩
          clear HP1 h11 hsp hK3 hq1 hS0
          (refine hK _ _ (fun _ => hS1) ?_; clear hK K; (try simp only [Act.put, List.setIfInBounds_toArray, List.set_cons_zero, List.set_cons_succ]))
          clear hS1
          (repeat (first | (refine C_p (v := ?_) rfl rfl (fun w' => ?_) ?_; rotate_left; (go_simp; with_reducible rfl); simp only [Act.put, List.setIfInBounds_toArray, List.set_cons_zero, List.set_cons_succ]) | (refine C_s (v := ?_) rfl rfl hS0 (fun w' hS => ?_) ?_; rotate_left; ((try dsimp only at hS); go_simp; with_reducible rfl); simp only [Act.put, List.setIfInBounds_toArray, List.set_cons_zero, List.set_cons_succ]) | (refine C_t (v := ?_) rfl rfl ?_ ?_; rotate_left; (go_simp; with_reducible rfl); simp only [Act.put, List.setIfInBounds_toArray, List.set_cons_zero, List.set_cons_succ]) | (refine C_po rfl rfl ?_; simp only [Act.put, List.setIfInBounds_toArray, List.set_cons_zero, List.set_cons_succ]) | (refine C_so rfl rfl hS0 ?_; simp only [Act.put, List.setIfInBounds_toArray, List.set_cons_zero, List.set_cons_succ]) | (refine C_to rfl rfl ?_; simp only [Act.put, List.setIfInBounds_toArray, List.set_cons_zero, List.set_cons_succ])))
          (refine C_e rfl rfl (fun K hK => ?_); go_simp)
          refine HSP.out.mono ?_
          rintro e w12 ⟨rfl, h12⟩
          have hS2 : w12.cell? ⟨g2, 0, none⟩ = some (.slice lb ml ld) ∧ w12.cell? ⟨g2, 1, none⟩ = some (.slice rb mr rd) ∧ w12.cell? ⟨g2, 2, none⟩ = some (.slice sb mS sd) := ⟨h12.p1.cell 0, h12.p1.cell 1, h12.p1.cell 2⟩
          have y0 : w12.cell? ⟨g, 0, none⟩ = some (.slice la nl lc) := h12.p2.cell 0
          have y1 : w12.cell? ⟨g, 1, none⟩ = some (.slice ra nr rc) := h12.p2.cell 1
          have y2 : w12.cell? ⟨g, 2, none⟩ = some (.slice sa nS sc) := h12.p2.cell 2
          have HB1 := Lib.hid (bare_spec la ra sa nl nr nS lc rc sc h12)
          clear HSP h12
          (refine hK _ _ (fun _ => hS2) ?_; clear hK K; (try simp only [Act.put, List.setIfInBounds_toArray, List.set_cons_zero, List.set_cons_succ]))
          have hS0 := hS2
          clear hS2
          (repeat (first | (refine C_p (v := ?_) rfl rfl (fun w' => ?_) ?_; rotate_left; (go_simp; with_reducible rfl); simp only [Act.put, List.setIfInBounds_toArray, List.set_cons_zero, List.set_cons_succ]) | (refine C_s (v := ?_) rfl rfl hS0 (fun w' hS => ?_) ?_; rotate_left; ((try dsimp only at hS); go_simp; with_reducible rfl); simp only [Act.put, List.setIfInBounds_toArray, List.set_cons_zero, List.set_cons_succ]) | (refine C_t (v := ?_) rfl rfl ?_ ?_; rotate_left; (go_simp; with_reducible rfl); simp only [Act.put, List.setIfInBounds_toArray, List.set_cons_zero, List.set_cons_succ]) | (refine C_po rfl rfl ?_; simp only [Act.put, List.setIfInBounds_toArray, List.set_cons_zero, List.set_cons_succ]) | (refine C_so rfl rfl hS0 ?_; simp only [Act.put, List.setIfInBounds_toArray, List.set_cons_zero, List.set_cons_succ]) | (refine C_to rfl rfl ?_; simp only [Act.put, List.setIfInBounds_toArray, List.set_cons_zero, List.set_cons_succ])))
          (refine C_e rfl rfl (fun K hK => ?_); go_simp)
          refine HB1.out.mono ?_
          rintro e w13 ⟨rfl, h13⟩
          have hS3 : w13.cell? ⟨g2, 0, none⟩ = some (.slice lb ml ld) ∧ w13.cell? ⟨g2, 1, none⟩ = some (.slice rb mr rd) ∧ w13.cell? ⟨g2, 2, none⟩ = some (.slice sb mS sd) := ⟨h13.p1.cell 0, h13.p1.cell 1, h13.p1.cell 2⟩
          have hsf := sameProof_spec _ _ PR PR h13 (HY.out.2.2.2.mono HK3.out) (HZ.out.2.2.2.mono HK3z.out)
          rw [decide_eq_true rfl] at hsf
          have HSF := Lib.hid hsf
          clear HB1 h13 hsf hS0 y0 y1 y2
          (refine hK _ _ (fun _ => hS3) ?_; clear hK K; (try simp only [Act.put, List.setIfInBounds_toArray, List.set_cons_zero, List.set_cons_succ]))
          clear hS3
          (repeat (first | (refine C_p (v := ?_) rfl rfl (fun w' => ?_) ?_; rotate_left; (go_simp; with_reducible rfl); simp only [Act.put, List.setIfInBounds_toArray, List.set_cons_zero, List.set_cons_succ]) | (refine C_s (v := ?_) rfl rfl hS0 (fun w' hS => ?_) ?_; rotate_left; ((try dsimp only at hS); go_simp; with_reducible rfl); simp only [Act.put, List.setIfInBounds_toArray, List.set_cons_zero, List.set_cons_succ]) | (refine C_t (v := ?_) rfl rfl ?_ ?_; rotate_left; (go_simp; with_reducible rfl); simp only [Act.put, List.setIfInBounds_toArray, List.set_cons_zero, List.set_cons_succ]) | (refine C_po rfl rfl ?_; simp only [Act.put, List.setIfInBounds_toArray, List.set_cons_zero, List.set_cons_succ]) | (refine C_so rfl rfl hS0 ?_; simp only [Act.put, List.setIfInBounds_toArray, List.set_cons_zero, List.set_cons_succ]) | (refine C_to rfl rfl ?_; simp only [Act.put, List.setIfInBounds_toArray, List.set_cons_zero, List.set_cons_succ])))
          (refine C_e rfl rfl (fun K hK => ?_); go_simp)
          refine HSF.out.mono ?_
          rintro e w14 ⟨rfl, h14⟩
          have h15 : Sat w w14 (sep (kn K3) (sep (blk g (.cells #[.slice la nl lc, .slice ra nr rc, .slice sa nS sc] 40 (0, 0))) (sep (isAM p1 (lkP L)) emp))) := h14.p1.drop
          have HK5 := Lib.hid (Mem.le_trans HJ.out (Mem.le_trans HY.out.1 HK3.out))
          have H15 := Lib.hid h15
          clear HSF h14 h15
          (refine hK _ _ (fun h => by cases h) ?_; clear hK K; (try simp only [Act.put, List.setIfInBounds_toArray, List.set_cons_zero, List.set_cons_succ]))
          (repeat (first | (refine C_p (v := ?_) rfl rfl (fun w' => ?_) ?_; rotate_left; (go_simp; with_reducible rfl); simp only [Act.put, List.setIfInBounds_toArray, List.set_cons_zero, List.set_cons_succ]) | (refine C_s (v := ?_) rfl rfl hS0 (fun w' hS => ?_) ?_; rotate_left; ((try dsimp only at hS); go_simp; with_reducible rfl); simp only [Act.put, List.setIfInBounds_toArray, List.set_cons_zero, List.set_cons_succ]) | (refine C_t (v := ?_) rfl rfl ?_ ?_; rotate_left; (go_simp; with_reducible rfl); simp only [Act.put, List.setIfInBounds_toArray, List.set_cons_zero, List.set_cons_succ]) | (refine C_po rfl rfl ?_; simp only [Act.put, List.setIfInBounds_toArray, List.set_cons_zero, List.set_cons_succ]) | (refine C_so rfl rfl hS0 ?_; simp only [Act.put, List.setIfInBounds_toArray, List.set_cons_zero, List.set_cons_succ]) | (refine C_to rfl rfl ?_; simp only [Act.put, List.setIfInBounds_toArray, List.set_cons_zero, List.set_cons_succ])))
          refine C_nil ?_
          have hd := H15.out.drew
          obtain ⟨wd4, hwd4⟩ : ∃ z, z = w14.drew := ⟨_, rfl⟩
          rw [← hwd4] at hd
          by_cases her0 : er = 0
          · have gz : (er == 0) = true := by rw [her0]; rfl
            have hS0 : (wd4.cell? ⟨qf, j, none⟩ = some (.int .i64 f) ∧ wd4.cell? ⟨qf + 1, j, none⟩ = some (.int .i64 s)) ∧ wd4.cell? ⟨g, 0, none⟩ = some (.slice la nl lc) ∧ wd4.cell? ⟨g, 1, none⟩ = some (.slice ra nr rc) ∧ wd4.cell? ⟨g, 2, none⟩ = some (.slice sa nS sc) :=
              ⟨HJy.out wd4 (fun b o hb => hd.ext b o (HK3.out b o hb)), hd.p1.cell 0, hd.p1.cell 1, hd.p1.cell 2⟩
            have hroot := aroot_spec HW.out p1 (lkP L) (show Sat w wd4 (sep (isAM p1 (lkP L)) (sep (kn K3) (sep (blk g (.cells #[.slice la nl lc, .slice ra nr rc, .slice sa nS sc] 40 (0, 0))) emp))) by simpa only [sep_comm, sep_lcomm, sep_assoc] using hd)
            have hck := HP.out.2.2 her0
            obtain ⟨rt, hrt⟩ : ∃ z, z = rootN (lkP L) := ⟨_, rfl⟩
            rw [← hrt] at hroot hck
            have HRT := Lib.hid hroot
            have HCK := Lib.hid hck
            have HWD4 := Lib.hid hwd4
            clear hd H15 hroot hck hrt hwd4 her0 gne
            go_wp2_with fail
            refine wp_region_canon rfl (fun w' => (w'.cell? ⟨qf, j, none⟩ = some (.int .i64 f) ∧ w'.cell? ⟨qf + 1, j, none⟩ = some (.int .i64 s)) ∧ w'.cell? ⟨g, 0, none⟩ = some (.slice la nl lc) ∧ w'.cell? ⟨g, 1, none⟩ = some (.slice ra nr rc) ∧ w'.cell? ⟨g, 2, none⟩ = some (.slice sa nS sc)) [(0, .p), (1, .p), (2, .p), (3, .p), (5, .p), (6, .p), (7, .p), (8, .s), (9, .p), (10, .p), (11, .p), (12, .s), (13, .p), (14, .s), (4, .e true), (15, .e false), (16, .p), (17, .p)] (by kernel_rfl) ?_
            rw [← HWD4.out]
            (repeat (first | (refine C_p (v := ?_) rfl rfl (fun w' => ?_) ?_; rotate_left; (go_simp; with_reducible rfl); simp only [Act.put, List.setIfInBounds_toArray, List.set_cons_zero, List.set_cons_succ]) | (refine C_s (v := ?_) rfl rfl hS0 (fun w' hS => ?_) ?_; rotate_left; ((try dsimp only at hS); go_simp; with_reducible rfl); simp only [Act.put, List.setIfInBounds_toArray, List.set_cons_zero, List.set_cons_succ]) | (refine C_t (v := ?_) rfl rfl ?_ ?_; rotate_left; (go_simp; with_reducible rfl); simp only [Act.put, List.setIfInBounds_toArray, List.set_cons_zero, List.set_cons_succ]) | (refine C_po rfl rfl ?_; simp only [Act.put, List.setIfInBounds_toArray, List.set_cons_zero, List.set_cons_succ]) | (refine C_so rfl rfl hS0 ?_; simp only [Act.put, List.setIfInBounds_toArray, List.set_cons_zero, List.set_cons_succ]) | (refine C_to rfl rfl ?_; simp only [Act.put, List.setIfInBounds_toArray, List.set_cons_zero, List.set_cons_succ])))
            (refine C_e rfl rfl (fun K hK => ?_); go_simp)
            refine HRT.out.mono ?_
            rintro e w16 ⟨rfl, h16⟩
            have hS4 : (w16.cell? ⟨qf, j, none⟩ = some (.int .i64 f) ∧ w16.cell? ⟨qf + 1, j, none⟩ = some (.int .i64 s)) ∧ w16.cell? ⟨g, 0, none⟩ = some (.slice la nl lc) ∧ w16.cell? ⟨g, 1, none⟩ = some (.slice ra nr rc) ∧ w16.cell? ⟨g, 2, none⟩ = some (.slice sa nS sc) :=
              ⟨HJy.out w16 (fun b o hb => h16.p1.ext b o (HK3.out b o hb)), h16.p2.cell 0, h16.p2.cell 1, h16.p2.cell 2⟩
            have hc := acheck_spec HW.out rt f s ya yn yc PL (.agg #[.slice la nl lc, .slice ra nr rc, .slice sa nS sc]) PR h16.p1 ((rPairQ.slice 2).mono HK3.out HY.out.2.2.1) HP.out.1 (HY.out.2.2.2.mono HK3.out) HP.out.2.1.ok
            rw [HCK.out] at hc
            have HC2 := Lib.hid hc
            clear HRT h16 hc hS0
            (refine hK _ _ (fun _ => hS4) ?_; clear hK K; (try simp only [Act.put, List.setIfInBounds_toArray, List.set_cons_zero, List.set_cons_succ]))
            clear hS4
            (repeat (first | (refine C_p (v := ?_) rfl rfl (fun w' => ?_) ?_; rotate_left; (go_simp; with_reducible rfl); simp only [Act.put, List.setIfInBounds_toArray, List.set_cons_zero, List.set_cons_succ]) | (refine C_s (v := ?_) rfl rfl hS0 (fun w' hS => ?_) ?_; rotate_left; ((try dsimp only at hS); go_simp; with_reducible rfl); simp only [Act.put, List.setIfInBounds_toArray, List.set_cons_zero, List.set_cons_succ]) | (refine C_t (v := ?_) rfl rfl ?_ ?_; rotate_left; (go_simp; with_reducible rfl); simp only [Act.put, List.setIfInBounds_toArray, List.set_cons_zero, List.set_cons_succ]) | (refine C_po rfl rfl ?_; simp only [Act.put, List.setIfInBounds_toArray, List.set_cons_zero, List.set_cons_succ]) | (refine C_so rfl rfl hS0 ?_; simp only [Act.put, List.setIfInBounds_toArray, List.set_cons_zero, List.set_cons_succ]) | (refine C_to rfl rfl ?_; simp only [Act.put, List.setIfInBounds_toArray, List.set_cons_zero, List.set_cons_succ])))
            (refine C_e rfl rfl (fun K hK => ?_); go_simp)
            refine HC2.out.mono ?_
            rintro e w17 ⟨rfl, h17⟩
            have H17 : Hid (Sat w w17 (sep (kn K3) (sep (isAM p1 (lkP L)) emp))) := Lib.hid (by
              have := h17.p2.drop
              simpa only [sep_comm, sep_lcomm, sep_assoc] using this)
            clear HC2 h17
            (refine hK _ _ (fun h => by cases h) ?_; clear hK K; (try simp only [Act.put, List.setIfInBounds_toArray, List.set_cons_zero, List.set_cons_succ]))
            (repeat (first | (refine C_p (v := ?_) rfl rfl (fun w' => ?_) ?_; rotate_left; (go_simp; with_reducible rfl); simp only [Act.put, List.setIfInBounds_toArray, List.set_cons_zero, List.set_cons_succ]) | (refine C_s (v := ?_) rfl rfl hS0 (fun w' hS => ?_) ?_; rotate_left; ((try dsimp only at hS); go_simp; with_reducible rfl); simp only [Act.put, List.setIfInBounds_toArray, List.set_cons_zero, List.set_cons_succ]) | (refine C_t (v := ?_) rfl rfl ?_ ?_; rotate_left; (go_simp; with_reducible rfl); simp only [Act.put, List.setIfInBounds_toArray, List.set_cons_zero, List.set_cons_succ]) | (refine C_po rfl rfl ?_; simp only [Act.put, List.setIfInBounds_toArray, List.set_cons_zero, List.set_cons_succ]) | (refine C_so rfl rfl hS0 ?_; simp only [Act.put, List.setIfInBounds_toArray, List.set_cons_zero, List.set_cons_succ]) | (refine C_to rfl rfl ?_; simp only [Act.put, List.setIfInBounds_toArray, List.set_cons_zero, List.set_cons_succ])))
            refine C_nil ?_
            go_wp2_with fail
            go_roundw
            case rel => exact ⟨j + 1, K3, by omega, by go_num, HK5, H17⟩
            case measure => simp only [intOf]; omega
          · have gz : (er == 0) = false := by simpa using her0
            have hS0 : True := trivial
            have H17 : Hid (Sat w wd4 (sep (kn K3) (sep (isAM p1 (lkP L)) emp))) := Lib.hid (by
              have := hd.p1.drop
              simpa only [sep_comm, sep_lcomm, sep_assoc] using this)
            have HWD4 := Lib.hid hwd4
            clear hd H15 hwd4 her0 gne
            go_wp2_with fail
            refine wp_region_canon rfl (fun w' => True) [(0, .p), (1, .p), (2, .p), (3, .p), (5, .p), (6, .p), (7, .p), (8, .s), (9, .p), (10, .p), (11, .p), (12, .s), (13, .p), (14, .s), (4, .e true), (15, .e false), (16, .p), (17, .p)] (by kernel_rfl) ?_
            rw [← HWD4.out]
            (repeat (first | (refine C_p (v := ?_) rfl rfl (fun w' => ?_) ?_; rotate_left; (go_simp; with_reducible rfl); simp only [Act.put, List.setIfInBounds_toArray, List.set_cons_zero, List.set_cons_succ]) | (refine C_s (v := ?_) rfl rfl hS0 (fun w' hS => ?_) ?_; rotate_left; ((try dsimp only at hS); go_simp; with_reducible rfl); simp only [Act.put, List.setIfInBounds_toArray, List.set_cons_zero, List.set_cons_succ]) | (refine C_t (v := ?_) rfl rfl ?_ ?_; rotate_left; (go_simp; with_reducible rfl); simp only [Act.put, List.setIfInBounds_toArray, List.set_cons_zero, List.set_cons_succ]) | (refine C_po rfl rfl ?_; simp only [Act.put, List.setIfInBounds_toArray, List.set_cons_zero, List.set_cons_succ]) | (refine C_so rfl rfl hS0 ?_; simp only [Act.put, List.setIfInBounds_toArray, List.set_cons_zero, List.set_cons_succ]) | (refine C_to rfl rfl ?_; simp only [Act.put, List.setIfInBounds_toArray, List.set_cons_zero, List.set_cons_succ])))
            (refine C_eo rfl rfl (fun h => by first | (cases h; done) | exact hS0) ?_; simp only [Act.put, List.setIfInBounds_toArray, List.set_cons_zero, List.set_cons_succ])
            (repeat (first | (refine C_p (v := ?_) rfl rfl (fun w' => ?_) ?_; rotate_left; (go_simp; with_reducible rfl); simp only [Act.put, List.setIfInBounds_toArray, List.set_cons_zero, List.set_cons_succ]) | (refine C_s (v := ?_) rfl rfl hS0 (fun w' hS => ?_) ?_; rotate_left; ((try dsimp only at hS); go_simp; with_reducible rfl); simp only [Act.put, List.setIfInBounds_toArray, List.set_cons_zero, List.set_cons_succ]) | (refine C_t (v := ?_) rfl rfl ?_ ?_; rotate_left; (go_simp; with_reducible rfl); simp only [Act.put, List.setIfInBounds_toArray, List.set_cons_zero, List.set_cons_succ]) | (refine C_po rfl rfl ?_; simp only [Act.put, List.setIfInBounds_toArray, List.set_cons_zero, List.set_cons_succ]) | (refine C_so rfl rfl hS0 ?_; simp only [Act.put, List.setIfInBounds_toArray, List.set_cons_zero, List.set_cons_succ]) | (refine C_to rfl rfl ?_; simp only [Act.put, List.setIfInBounds_toArray, List.set_cons_zero, List.set_cons_succ])))
            (refine C_eo rfl rfl (fun h => by first | (cases h; done) | exact hS0) ?_; simp only [Act.put, List.setIfInBounds_toArray, List.set_cons_zero, List.set_cons_succ])
            (repeat (first | (refine C_p (v := ?_) rfl rfl (fun w' => ?_) ?_; rotate_left; (go_simp; with_reducible rfl); simp only [Act.put, List.setIfInBounds_toArray, List.set_cons_zero, List.set_cons_succ]) | (refine C_s (v := ?_) rfl rfl hS0 (fun w' hS => ?_) ?_; rotate_left; ((try dsimp only at hS); go_simp; with_reducible rfl); simp only [Act.put, List.setIfInBounds_toArray, List.set_cons_zero, List.set_cons_succ]) | (refine C_t (v := ?_) rfl rfl ?_ ?_; rotate_left; (go_simp; with_reducible rfl); simp only [Act.put, List.setIfInBounds_toArray, List.set_cons_zero, List.set_cons_succ]) | (refine C_po rfl rfl ?_; simp only [Act.put, List.setIfInBounds_toArray, List.set_cons_zero, List.set_cons_succ]) | (refine C_so rfl rfl hS0 ?_; simp only [Act.put, List.setIfInBounds_toArray, List.set_cons_zero, List.set_cons_succ]) | (refine C_to rfl rfl ?_; simp only [Act.put, List.setIfInBounds_toArray, List.set_cons_zero, List.set_cons_succ])))
            refine C_nil ?_
            go_wp2_with fail
            go_roundw
            case rel => exact ⟨j + 1, K3, by omega, by go_num, HK5, H17⟩
            case measure => simp only [intOf]; omega
    · have ej : j = 7 := by omega
      subst ej
      have g1 : ¬ ((7 : Nat) : Int) < 7 := by omega
      have HLV := Lib.hid (lives33_spec HW.out HS.out)
      clear HS hj7
      go_wp2_with fail
      refine HLV.out.mono ?_
      rintro e w7 ⟨rfl, h7⟩
      have HB := Lib.hid h7.below
      clear HLV h7
      go_wp2_with fail
      go_ret
      exact ⟨rfl, HB.out⟩
end Go.Proofs.YtcmjbjlliehdiaaDoor
