/- TitleStays, the walk. -/
import Derived.Test.YtfapiopnjllnnaaGreatDoorGTitleStaysSTg
import Derived.Test.YtfapiopnjllnnaaGreatDoorGTitleStaysSTp
import Derived.Test.YtfapiopnjllnnaaGreatDoorGTitleStaysSTi
import Derived.Test.YtfapiopnjllnnaaGreatDoorGTitleStaysSTq
import Derived.Test.YtfapiopnjllnnaaGreatDoorGTitleStays43
import Derived.Deep.DeepCutAuto
import Derived.Deep.CutBlock
namespace Go.Proofs.YtfapiopnjllnnaaGreatDoor
open Go.RowKit PA
attribute [local go_sem ↓] sizeAct buildSlice_act
section
variable {W w : World} {A : Assn} {g N : Nat} {f : Nat → Ac} {tl : List Value}
theorem arow_cellj (h : Sat W w (sep (arow g N f tl) A)) (i : Nat) (hi : i < N) (j : Nat) (hj : j < 19) : w.cell? ⟨g, i * 19 + j, none⟩ = (f i).cells[j]? := by
  rw [Sat.cell h, List.getElem?_toArray, List.getElem?_append_left (by rw [acs_len]; simp; omega), acs_at _ i (by simpa using hi) j hj]
  simp
theorem arow_congr {f' : Nat → Ac} (hf : ∀ k, k < N → f k = f' k) (h : Sat W w (sep (arow g N f tl) A)) : Sat W w (sep (arow g N f' tl) A) := by
  have e : (List.range N).map f = (List.range N).map f' := List.map_congr_left fun k hk => hf k (List.mem_range.1 hk)
  unfold arow at h ⊢
  rw [← e]; exact h
theorem arow_setj (h : Sat W w (sep (arow g N f tl) A)) (i : Nat) (hi : i < N) (j : Nat) (hj : j < 19) (v : Value) (y : Ac) (hy : y.cells = (f i).cells.set j v) :
    Sat W (w.setCell ⟨g, i * 19 + j, none⟩ v) (sep (arow g N (setA f i y) tl) A) := by
  have h2 := Sat.setCell h (i * 19 + j) v
  unfold arow
  rw [range_set, acs_set _ i (by simpa using hi), hy]
  obtain ⟨L, hL⟩ : ∃ L, L = (List.range N).map f := ⟨_, rfl⟩
  have hLi : i < L.length := by rw [hL]; simpa using hi
  have hLe : L[i] = f i := by subst hL; simp
  have e0 : acs L = (acs L).take (i * 19) ++ (f i).cells ++ (acs L).drop (i * 19 + 19) := by
    have := acs_set L i hLi L[i]
    rw [List.set_getElem_self] at this
    rw [hLe] at this
    exact this
  rw [← hL] at h2 ⊢
  have hlen : (acs L).length = L.length * 19 := acs_len L
  have hl1 : ((acs L).take (i * 19)).length = i * 19 := by rw [List.length_take, hlen]; omega
  have hl2 : (f i).cells.length = 19 := rfl
  have e1 : (acs L ++ tl).set (i * 19 + j) v = (acs L).take (i * 19) ++ (f i).cells.set j v ++ (acs L).drop (i * 19 + 19) ++ tl := by
    conv => lhs; rw [e0]
    rw [List.append_assoc, List.append_assoc, List.set_append_right _ _ (by rw [hl1]; omega), hl1, Nat.add_sub_cancel_left, List.set_append_left _ _ (by rw [hl2]; exact hj), List.append_assoc, List.append_assoc]
  have e2 : (acs L ++ tl).toArray.setIfInBounds (i * 19 + j) v = ((acs L).take (i * 19) ++ (f i).cells.set j v ++ (acs L).drop (i * 19 + 19) ++ tl).toArray := by
    rw [List.setIfInBounds_toArray, e1]
  rw [e2] at h2
  exact h2
end
theorem walkL_len (file fday day dq : Int) : ∀ (l : List Ac) (i : Nat) (S : Shs) (s : List Hl), (walkT file fday day (evL dq) i l S s).2.length ≤ s.length + l.length
  | [], _, _, _ => by simp [walkT]
  | x :: l, i, S, s => by
    rw [walkT, List.length_cons]
    split
    · have h1 := walkL_len file fday day dq l (i + 1) (PA.stepT S x).1 (evL dq s i x (PA.stepT S x).2)
      have h2 : (evL dq s i x (PA.stepT S x).2).length ≤ s.length + 1 := by
        unfold evL
        split
        · simp
        · omega
      omega
    · have h1 := walkL_len file fday day dq l (i + 1) S s
      omega
theorem licT_len (file day : Int) (f : Ac) (xs : List Ac) : (licT file day f xs).length ≤ xs.length := by
  have := walkL_len file f.d day day (sortK xs) 0 (first1 f.p) []
  unfold licT
  rw [sortK_len] at this
  simpa using this
theorem extP_succ (L : List Ac) (i : Nat) (hi : i < L.length) : extP (L.take (i + 1)) = extP (L.take i) ++ (if L[i].k = 16 then [shX L[i]] else []) := by
  unfold extP
  rw [List.take_succ_eq_append_getElem hi, List.filter_append, List.map_append]
  congr 1
  by_cases h : L[i].k = 16 <;> simp [h]
set_option maxRecDepth 100000 in
set_option maxHeartbeats 16000000 in
theorem titleStays_walk (a0 : Option Addr) (len0 cap0 : Nat) (z0 : List Int) (a1 : Option Addr) (len1 cap1 : Nat) (z1 : List Int) (a2 a3 : Int) (w : World) (hW : WholeOK w)
    (w0 : IsArg w a0 len0 cap0 z0) (w1 : IsArg w a1 len1 cap1 z1) (w2 : (Lit.int .i64 a2).wf = true) (w3 : (Lit.int .i64 a3).wf = true) :
    Calls Tryz.prog 5 #[.slice a0 len0 cap0, .slice a1 len1 cap1, .int .i64 a2, .int .i64 a3] w fun e w' => e = .returned (.bool true) ∧ Below w.heap.size w w' := by
  obtain ⟨l, rfl, hr0, h64⟩ := argI w0
  obtain ⟨m, rfl, hr1, h641⟩ := argI w1
  have i1 := i64_of_wf w2
  have i2 := i64_of_wf w3
  have hscr := Lib.hid (script25_spec a0 cap0 l hr0 h64 (Sat.startKn w))
  obtain ⟨x1, hx1⟩ : ∃ x : Nat, aroundI a2 40 = (x : Int) := ⟨(aroundI a2 40).toNat, by have := aroundI_lt a2 40 (by omega); omega⟩
  obtain ⟨x2, hx2⟩ : ∃ x : Nat, aroundI a3 20 = (x : Int) := ⟨(aroundI a3 20).toNat, by have := aroundI_lt a3 20 (by omega); omega⟩
  have hb1 : x1 < 40 := by have := aroundI_lt a2 40 (by omega); omega
  have hb2 : x2 < 20 := by have := aroundI_lt a3 20 (by omega); omega
  have ha1 := fun w' => around_spec a2 40 w' i1.1 i1.2 (by omega) (by omega)
  have ha2 := fun w' => around_spec a3 20 w' i2.1 i2.2 (by omega) (by omega)
  simp only [hx1] at ha1
  simp only [hx2] at ha2
  have HA1 := Lib.hid ha1
  have HA2 := Lib.hid ha2
  obtain ⟨fr, hfr⟩ : ∃ fr : Nat, fr = 100 + x1 := ⟨_, rfl⟩
  obtain ⟨to1, hto⟩ : ∃ t : Nat, t = fr + x2 := ⟨_, rfl⟩
  have e1 : (100 : Int) + (x1 : Int) = (fr : Int) := by omega
  have e2 : (fr : Int) + (x2 : Int) = (to1 : Int) := by omega
  have HD : Hid (100 ≤ fr ∧ fr ≤ to1 ∧ to1 < 160 ∧ fr < 140) := Lib.hid (by omega)
  have hb3 : fr < 140 := by omega
  have HR1 := Lib.hid (And.intro hr1 h641)
  obtain ⟨ll, hll⟩ : ∃ ll, ll = l.length := ⟨_, rfl⟩
  obtain ⟨lm, hlm⟩ : ∃ lm, lm = m.length := ⟨_, rfl⟩
  rw [← hll] at hscr ⊢
  rw [← hlm]
  have HLM := Lib.hid hlm
  clear hr0 hr1 h64 h641 w0 w1 w2 w3 i1 i2 hx1 hx2 ha1 ha2 hfr hto hll hlm hW
  go_enter Tryz.func5, Tryz.ntmps5
  go_wp2_with fail
  refine hscr.out.mono ?_
  rintro e w1 ⟨g, n, c', J, rfl, hn, hle, hsw, hc, h1⟩
  have HH1 := Lib.hid (And.intro hn (And.intro hle (And.intro hsw (And.intro hc h1))))
  have hn14 : n ≤ 14 := by rw [hn, scrP_len]; have := scrN_le l; omega
  clear hn hle hsw hc h1 hscr
  go_wp2_with fail
  refine (HA1.out _).mono ?_
  rintro e w2 ⟨rfl, rfl⟩
  go_wp2_with fail
  refine (HA2.out _).mono ?_
  rintro e w2 ⟨rfl, rfl⟩
  go_upto_region 4 with (fail)
  clear e1 e2 HA1 HA2
  have hS := (HH1.out.2.2.2.2.alloc (.cells #[] 57)).osl_mk 0 0 19 [] rfl (by omega) (by unfold maxLen; omega) rfl rfl
  have HC2 := Lib.hid (old_src (src_ext HH1.out.2.2.2.1 HH1.out.2.2.2.2.ext ⟨g, 0, none⟩ rfl) (.cells #[] 57))
  obtain ⟨vs, hvs⟩ : ∃ vs, vs = acs (scrP l) := ⟨_, rfl⟩
  have HVL : Hid (vs.length = n * 19) := Lib.hid (by rw [hvs, acs_len, ← HH1.out.1])
  have HV1 : Hid (∀ u ∈ vs, u.oneCell' = true) := Lib.hid (by rw [hvs]; exact acs_one _)
  rw [← hvs] at HC2
  have HVS := Lib.hid hvs
  clear hvs
  go_wp2_with (at_builtin; refine wpl_append_osl rfl _ _ 29 rfl 57 19 248 _ Tryz.underlying29 infoAct rfl rfl hS rfl vs HVL.out (by simp) (by intro b' hb; cases hb; exact HC2.out) HV1.out (by omega) (by unfold maxLen; omega) ?_)
  intro a4 c4 w4 h4
  have hsc2 := Lib.hid (script25_own a1 cap1 m ((rInt.slice 1).mono HH1.out.2.1 HR1.out.1) HR1.out.2 h4.p1)
  rw [← HLM.out] at hsc2
  clear hS h4 HC2
  go_wp2_with fail
  refine hsc2.out.mono ?_
  rintro e w5 ⟨a5, nm, c5, rfl, hnm, h5⟩
  have HNM := Lib.hid hnm
  have hnm14 : nm ≤ 14 ∧ 2 ≤ nm := by rw [hnm, scrP_len]; have := scrN_le m; omega
  have hnmU : nm ≤ 14 := hnm14.1
  have hnmL : 2 ≤ nm := hnm14.2
  obtain ⟨gx, tl, rfl, -, -, -, h6⟩ := osl_arow hnm.symm (by omega) h5
  obtain ⟨F, hF⟩ : ∃ F : Nat → Ac, F = fun i => (scrP m).getD i default := ⟨_, rfl⟩
  rw [← hF] at h6
  have HFd : Hid (∀ i (hi : i < nm), F i ∈ scrP m ∧ (scrP m)[i]? = some (F i)) := Lib.hid fun i hi => by
    have hi' : i < (scrP m).length := by rw [← HNM.out]; exact hi
    have e : F i = (scrP m)[i] := by rw [hF]; simp [List.getD_eq_getElem?_getD, hi']
    rw [e]
    exact ⟨List.getElem_mem hi', List.getElem?_eq_getElem hi'⟩
  have h7 : Sat w w5 (sep (arow gx nm (fun k => if k < 2 then shX (F k) else F k) tl) (sep (osl 57 19 a4 n c4 vs) (sep (kn J) emp))) := by
    have := arow_congr (f' := fun k => if k < 2 then shX (F k) else F k) (fun k hk => ?_) h6
    · simpa only [sep_comm, sep_lcomm, sep_assoc] using this
    · split
      · rename_i h2
        have e : (F k).k = 0 := by
          rw [hF]
          rcases (show k = 0 ∨ k = 1 by omega) with rfl | rfl <;> rfl
        unfold shX
        rw [if_neg (by rw [e]; decide)]
      · rfl
  have H7 := Lib.hid h7
  clear hsc2 hnm hnm14 h5 h6 h7 hF HR1 HVL HV1
  go_upto_block 0 with (fail)
  go_cut [12] from 24 (fun ov wx => ∃ (a : Option Addr) (n1 c1 : Nat), ov = .slice a n1 c1 ∧ Hid (n1 = (stayP l m).length) ∧ Sat w wx (sep (osl 57 19 a n1 c1 (acs (stayP l m))) (sep (kn J) emp)))
  case first =>
    as_aux_lemma =>
    /-DEV1-/
    go_wp2
    go_loopw [14, 12] (fun iv ov wr => ∃ (i n1 : Nat) (a : Option Addr) (c1 : Nat) (us : List Value), iv = .int .i64 i ∧ 2 ≤ i ∧ i ≤ nm ∧ ov = .slice a n1 c1 ∧ n1 ≤ n + i ∧ Hid (n1 = (scrP l ++ extP ((scrP m).take i)).length ∧ us = acs (scrP l ++ extP ((scrP m).take i))) ∧ Sat w wr (sep (arow gx nm (fun k => if k < i then shX (F k) else F k) tl) (sep (osl 57 19 a n1 c1 us) (sep (kn J) emp)))) (fun iv _ _ => nm + 1 - (intOf iv).toNat)
    case atStart =>
      refine ⟨2, n, _, _, _, rfl, by omega, by omega, rfl, by omega, Lib.hid ?_, H7.out⟩
      have e : extP ((scrP m).take 2) = [] := by
        show extP [fil2, fil7] = []
        rfl
      rw [e, List.append_nil]
      exact ⟨HH1.out.1, HVS.out⟩
    case round =>
      obtain ⟨i, n1, a, c1, us, rfl, hi2, hi, rfl, hn1, HU, hS⟩ := hrel
      by_cases hlt : i < nm
      · have hltz : (i : Int) < (nm : Int) := by omega
        have hiI : (i : Int) ≤ 14 := by omega
        obtain ⟨x, hx⟩ : ∃ x, x = F i := ⟨_, rfl⟩
        have hfi : (if i < i then shX (F i) else F i) = x := by rw [if_neg (by omega), hx]
        have c0 : wr.cell? ⟨gx, i * 19, none⟩ = some (.int .i64 x.k) := by
          have := arow_cellj hS i hlt 0 (by omega)
          rw [hfi] at this; exact this
        have hmem := (HFd.out i hlt).1
        rw [← hx] at hmem
        have hget := (HFd.out i hlt).2
        rw [← hx] at hget
        obtain ⟨hil, hge⟩ := List.getElem?_eq_some_iff.1 hget
        have hsucc := extP_succ (scrP m) i hil
        rw [hge] at hsucc
        by_cases hk : x.k = 16
        · rw [if_pos hk] at hsucc
          have hs : SAct x := by
            rcases scrP_mem hmem with e | e | e
            · rw [e] at hk; exact absurd hk (by decide)
            · rw [e] at hk; exact absurd hk (by decide)
            · exact e
          have hnn := scrP_n hmem
          obtain ⟨xd, hxd⟩ : ∃ z, z = x.d := ⟨_, rfl⟩
          obtain ⟨xn, hxn⟩ : ∃ z, z = x.n := ⟨_, rfl⟩
          have bd : 95 ≤ xd ∧ xd < 135 := by rw [hxd]; exact ⟨hs.d1, hs.d2⟩
          have bn : 0 ≤ xn ∧ xn ≤ 30 := by rw [hxn]; exact hnn
          have bd1 := bd.1
          have bd2 := bd.2
          have bn1 := bn.1
          have bn2 := bn.2
          obtain ⟨y1, hy1⟩ : ∃ y : Ac, y = { x with d := x.d + 60 } := ⟨_, rfl⟩
          obtain ⟨y2, hy2⟩ : ∃ y : Ac, y = { y1 with n := x.n + 100 } := ⟨_, rfl⟩
          have hsh : shX x = y2 := by unfold shX; rw [if_pos hk, hy2, hy1]
          rw [hsh] at hsucc
          have c1' : wr.cell? ⟨gx, i * 19 + 1, none⟩ = some (.int .i64 xd) := by
            have := arow_cellj hS i hlt 1 (by omega)
            rw [hfi] at this; rw [hxd]; exact this
          have u1 : wr.frozen? ⟨gx, i * 19 + 1, none⟩ = false := Sat.unfrozen hS _
          have h8 := arow_setj hS i hlt 1 (by omega) (.int .i64 (xd + 60)) y1 (by rw [hfi, hy1, hxd]; rfl)
          obtain ⟨w8, hw8⟩ : ∃ w8, w8 = wr.setCell ⟨gx, i * 19 + 1, none⟩ (.int .i64 (xd + 60)) := ⟨_, rfl⟩
          rw [← hw8] at h8
          have c2' : w8.cell? ⟨gx, i * 19 + 2, none⟩ = some (.int .i64 xn) := by
            have := arow_cellj h8 i hlt 2 (by omega)
            unfold setA at this
            rw [if_pos rfl, hy1] at this
            rw [hxn]; exact this
          have u2 : w8.frozen? ⟨gx, i * 19 + 2, none⟩ = false := Sat.unfrozen h8 _
          have h9 := arow_setj h8 i hlt 2 (by omega) (.int .i64 (xn + 100)) y2 (by unfold setA; rw [if_pos rfl, hy2, hy1, hxn]; rfl)
          obtain ⟨w9, hw9⟩ : ∃ w9, w9 = w8.setCell ⟨gx, i * 19 + 2, none⟩ (.int .i64 (xn + 100)) := ⟨_, rfl⟩
          rw [← hw9] at h9
          have l1 := arow_ld h9 i hlt
          have e9 : setA (setA (fun k => if k < i then shX (F k) else F k) i y1) i y2 i = y2 := by unfold setA; rw [if_pos rfl]
          rw [e9] at l1
          have h10 : Sat w w9 (sep (arow gx nm (fun k => if k < i + 1 then shX (F k) else F k) tl) (sep (osl 57 19 a n1 c1 us) (sep (kn J) emp))) := by
            refine arow_congr (fun k hk' => ?_) h9
            unfold setA
            by_cases e : k = i
            · subst e
              rw [if_pos rfl, if_pos (by omega), ← hx, hsh]
            · rw [if_neg e, if_neg e]
              show (if k < i then shX (F k) else F k) = _
              by_cases e' : k < i
              · rw [if_pos e', if_pos (by omega)]
              · rw [if_neg e', if_neg (by omega)]
          have hbs : ∀ w0, (bsAct #[(0, .agg y2.cells.toArray)]).run Tryz.prog w0 = .ok (.slice (some ⟨w0.heap.size, 0, none⟩) 1 1) (w0.alloc (.cells y2.cells.toArray 57)) := fun w0 => bs_act y2 w0
          have h11 : Sat w (w9.alloc (.cells y2.cells.toArray 57)) (sep (osl 57 19 a n1 c1 us) (sep (arow gx nm (fun k => if k < i + 1 then shX (F k) else F k) tl) (sep (kn J) emp))) := (h10.alloc0 _).p1
          have HSRC := Lib.hid (new_src w9 y2.cells 57)
          have H11 := Lib.hid h11
          have HW8 := Lib.hid hw8
          have HW9 := Lib.hid hw9
          have HC2 := Lib.hid (And.intro c2' u2)
          have HL1 := Lib.hid l1
          have HSU := Lib.hid hsucc
          rw [hk] at c0
          clear hx hfi hmem hget hge hs hnn hxd hxn bd bn hy1 hy2 hsh hS h8 hw8 c2' u2 h9 hw9 l1 e9 h10 h11 hsucc hk H7 hil
          go_upto_region 10 with (fail)
          clear c0
          go_upto_region 11 with (fail)
          rw [← HW8.out]
          clear c1' u1
          obtain ⟨c2', u2⟩ := HC2.out
          go_upto_region 12 with (fail)
          rw [← HW9.out]
          clear c2' u2
          have l1 := HL1.out
          go_wp2_with (at_builtin; refine wpl_append_osl rfl _ _ 29 rfl 57 19 248 _ Tryz.underlying29 infoAct rfl rfl H11.out rfl y2.cells rfl (by simp) (by intro b' hb; cases hb; exact HSRC.out) y2.one (by omega) (by unfold maxLen; omega) ?_)
          intro a6 c6 w10 h12
          have H12 := Lib.hid h12
          clear h12 l1 hbs H11 HSRC HL1
          go_wp2
          go_roundw
          case rel =>
            refine ⟨i + 1, n1 + 1, a6, c6, us ++ y2.cells, by go_num, by omega, by omega, rfl, by omega, Lib.hid ?_, H12.out.p1⟩
            rw [HSU.out, HU.out.2, ← List.append_assoc, List.length_append, ← HU.out.1, acs_append]
            refine ⟨rfl, ?_⟩
            rw [acs_append (scrP l ++ _) [y2], acs_append]
            simp [acs]
          case measure => simp [intOf]; omega
        · rw [if_neg hk, List.append_nil] at hsucc
          have hz : (x.k == 16) = false := by simpa using hk
          have h10 : Sat w wr (sep (arow gx nm (fun k => if k < i + 1 then shX (F k) else F k) tl) (sep (osl 57 19 a n1 c1 us) (sep (kn J) emp))) := by
            refine arow_congr (fun k hk' => ?_) hS
            by_cases e : k = i
            · subst e
              rw [if_neg (by omega), if_pos (by omega), ← hx]
              unfold shX; rw [if_neg hk]
            · by_cases e' : k < i
              · rw [if_pos e', if_pos (by omega)]
              · rw [if_neg e', if_neg (by omega)]
          have H10 := Lib.hid h10
          have HSU := Lib.hid hsucc
          clear hx hfi hmem hget hge hS h10 hsucc hk H7 hil
          go_wp2
          go_roundw
          case rel => exact ⟨i + 1, n1, a, c1, us, by go_num, by omega, by omega, rfl, by omega, Lib.hid (by rw [HSU.out]; exact HU.out), H10.out⟩
          case measure => simp [intOf]; omega
      · obtain rfl : i = nm := by omega
        have HS : Hid (Sat w wr (sep (osl 57 19 a n1 c1 us) (sep (kn J) emp))) := Lib.hid hS.drop
        have ht : (scrP m).take i = scrP m := List.take_of_length_le (by rw [← HNM.out]; exact Nat.le_refl _)
        have HT := Lib.hid ht
        clear hS ht H7
        go_wp2
        go_meet
        case rel =>
          have hu := HU.out
          rw [HT.out] at hu
          refine ⟨a, n1, c1, rfl, Lib.hid hu.1, ?_⟩
          have := HS.out
          rw [hu.2] at this
          exact this
    /-VED1-/
  case rest =>
    as_aux_lemma =>
    obtain ⟨a, n1, c1, rfl, HN1, h8⟩ := hcut
    have hn140 : n1 < 40 := by rw [HN1.out]; exact stay_len l m
    have hn10 : 0 < n1 := by rw [HN1.out]; simp [stayP, scrP]
    have hsw := h8.swf_of_osl
    obtain ⟨go, rfl⟩ : ∃ go, a = some ⟨go, 0, none⟩ := by
      rcases h8.osl_cases with ⟨-, h0, -⟩ | ⟨g, cur, rfl, -⟩
      · omega
      · exact ⟨g, rfl⟩
    obtain ⟨J1, hle1, hc1, h9⟩ := h8.osl_settle.learn
    have hn0 : 0 < n := by rw [HH1.out.1]; simp [scrP]
    obtain ⟨d1, d2, d3, d4⟩ := HD.out
    have HL1 := Lib.hid (licences_ok 2 fr fil2 ⟨g, 0, none⟩ n c' (scrP l) HH1.out.1.symm hn0 (by omega) (scrP_key l) (scrP_fine l) HH1.out.2.2.1 (cellsAt_mono hle1 HH1.out.2.2.2.1) (scrP_filed l) (scrP_err l fr (by omega) (by omega)) h9)
    have HOK := Lib.hid (And.intro hsw (And.intro hc1 (And.intro hn10 hn140)))
    have HLE1 := Lib.hid hle1
    obtain ⟨la, hla⟩ : ∃ la, la = licT 2 fr fil2 (scrP l) := ⟨_, rfl⟩
    obtain ⟨lc, hlc⟩ : ∃ lc, lc = licT 2 to1 fil2 (stayP l m) := ⟨_, rfl⟩
    have hlaw := stays_law l m (d := fr) (e := to1) (by omega) (by omega)
    have hla14 : la.length ≤ 14 := by rw [hla]; have := licT_len 2 fr fil2 (scrP l); rw [← HH1.out.1] at this; omega
    have hlc40 : lc.length < 40 := by rw [hlc]; have := licT_len 2 to1 fil2 (stayP l m); have := stay_len l m; omega
    rw [← hla, ← hlc] at hlaw
    rw [← hla] at HL1
    have HLAW := Lib.hid hlaw
    have HLC := Lib.hid hlc
    clear h8 h9 hsw hle1 hc1 hla hlc hlaw d1 d2 d3 d4 hn0 hn10 H7 HFd HVS
    go_wp2_with fail
    refine HL1.out.mono ?_
    rintro e w10 ⟨aa, ca, J2, rfl, hle2, h10⟩
    obtain ⟨na, hna⟩ : ∃ na, na = la.length := ⟨_, rfl⟩
    rw [← hna] at h10 ⊢
    have HL2 := licences_ok 2 fr fil2 ⟨go, 0, none⟩ n1 c1 (stayP l m) HN1.out.symm HOK.out.2.2.1 HOK.out.2.2.2 (stay_key l m) (stay_fine l m) HOK.out.1 (cellsAt_mono hle2 HOK.out.2.1) (stay_filed l m) (stay_err l m fr (by have := HD.out; omega) (by have := HD.out; omega)) h10.p1
    rw [← HLAW.out.1, ← hna] at HL2
    have HLb := Lib.hid HL2
    have HLE2 := Lib.hid hle2
    have HNA := Lib.hid hna
    have hna14 : na ≤ 14 := by rw [hna]; exact hla14
    clear HL1 h10 HL2 hle2 hna hla14
    go_wp2_with fail
    refine HLb.out.mono ?_
    rintro e w11 ⟨ab, cb, J3, rfl, hle3, h11⟩
    have HL3 := licences_ok 2 to1 fil2 ⟨go, 0, none⟩ n1 c1 (stayP l m) HN1.out.symm HOK.out.2.2.1 HOK.out.2.2.2 (stay_key l m) (stay_fine l m) HOK.out.1 (cellsAt_mono (Mem.le_trans HLE2.out hle3) HOK.out.2.1) (stay_filed l m) (stay_err l m to1 (by have := HD.out; omega) (by have := HD.out; omega)) h11.p1
    rw [← HLC.out] at HL3
    obtain ⟨nc, hnc⟩ : ∃ nc, nc = lc.length := ⟨_, rfl⟩
    rw [← hnc] at HL3
    have HLc := Lib.hid HL3
    have HNC := Lib.hid hnc
    have hnc40 : nc < 40 := by rw [hnc]; exact hlc40
    clear HLb h11 HL3 hle3 hnc hlc40
    go_wp2_with fail
    refine HLc.out.mono ?_
    rintro e w12 ⟨ac, cc, J4, rfl, hle4, h12⟩
    have h13 : Sat w w12 (sep (osl 68 4 aa na ca (hlC la)) (sep (osl 68 4 ab na cb (hlC la)) (sep (osl 68 4 ac nc cc (hlC lc)) (sep (kn J4) emp)))) := by simpa only [sep_comm, sep_lcomm, sep_assoc] using h12
    have HP1 := Lib.hid (held_spec aa na ca la HNA.out.symm (by omega) h13)
    clear HLc h12 h13 hle4
    go_wp2_with fail
    refine HP1.out.mono ?_
    rintro e w13 ⟨ah, ch, rfl, h14⟩
    have HP2 := Lib.hid (held_spec ab na cb la HNA.out.symm (by omega) h14.p2)
    clear HP1 h14
    go_wp2_with fail
    refine HP2.out.mono ?_
    rintro e w14 ⟨ai, ci, rfl, h15⟩
    have h16 : Sat w w14 (sep (osl 97 4 ah na ch (hlC la)) (sep (osl 97 4 ai na ci (hlC la)) (sep (osl 68 4 aa na ca (hlC la)) (sep (osl 68 4 ab na cb (hlC la)) (sep (osl 68 4 ac nc cc (hlC lc)) (sep (kn J4) emp)))))) := by simpa only [sep_comm, sep_lcomm, sep_assoc] using h15
    have HS1 := sameHeld_spec ah ai na na ch ci la la HNA.out.symm HNA.out.symm (by omega) (by omega) h16
    rw [decide_eq_true (rfl : la = la)] at HS1
    have HSm := Lib.hid HS1
    clear HP2 h15 h16 HS1
    go_wp2_with fail
    refine HSm.out.mono ?_
    rintro e w15 ⟨rfl, h17⟩
    have H17 : Hid (Sat w w15 (sep (osl 68 4 aa na ca (hlC la)) (sep (osl 68 4 ac nc cc (hlC lc)) (sep (kn J4) emp)))) := Lib.hid (h17.drop.drop.p1.drop)
    clear HSm h17
    go_upto_block 2 with (fail)
    go_cut [21] from 22 (fun _ wx => Sat w wx (sep (osl 68 4 aa na ca (hlC la)) (sep (osl 68 4 ac nc cc (hlC lc)) (sep (kn J4) emp))))
    case first =>
      as_aux_lemma =>
      /-DEV2-/
      go_wp2
      go_loopw [21] (fun iv wr => ∃ i : Nat, iv = .int .i64 i ∧ i ≤ na ∧ Sat w wr (sep (osl 68 4 aa na ca (hlC la)) (sep (osl 68 4 ac nc cc (hlC lc)) (sep (kn J4) emp)))) (fun iv _ => na + 1 - (intOf iv).toNat)
      case atStart => exact ⟨0, rfl, by omega, H17.out⟩
      case round =>
        obtain ⟨i, rfl, hi, hS⟩ := hrel
        by_cases hlt : i < na
        · have hltz : (i : Int) < (na : Int) := by omega
          have hiI : (i : Int) ≤ 14 := by omega
          obtain ⟨ga, x, rfl, hx, -, -, -, -⟩ := hl_cells HNA.out.symm hS i hlt
          obtain ⟨hxl, hxe⟩ := List.getElem?_eq_some_iff.1 hx
          have hlaw := HLAW.out.2 x (by rw [← hxe]; exact List.getElem_mem hxl)
          have HX := Lib.hid hx
          have HLX := Lib.hid hlaw
          have HS := Lib.hid hS
          clear hx hxl hxe hlaw hS H17
          go_upto_block 4 with (fail)
          go_cut [22] from 113 to 163 (fun hv wx => ∃ bm : Bool, hv = .bool bm ∧ Hid (bm = decide (x ∈ lc)) ∧ Sat w wx (sep (osl 68 4 (some ⟨ga, 0, none⟩) na ca (hlC la)) (sep (osl 68 4 ac nc cc (hlC lc)) (sep (kn J4) emp))))
          case first =>
            as_aux_lemma =>
            go_wp2
            go_loopw [23, 22] (fun jv hv wr => ∃ (j : Nat) (hb : Bool), jv = .int .i64 j ∧ j ≤ nc ∧ hv = .bool hb ∧ Hid (hb = decide (x ∈ lc.take j)) ∧ Sat w wr (sep (osl 68 4 (some ⟨ga, 0, none⟩) na ca (hlC la)) (sep (osl 68 4 ac nc cc (hlC lc)) (sep (kn J4) emp)))) (fun jv _ _ => nc + 1 - (intOf jv).toNat)
            case atStart => exact ⟨0, false, rfl, by omega, rfl, Lib.hid (by simp), HS.out⟩
            case round =>
              obtain ⟨j, hb, rfl, hj, rfl, HB, hS⟩ := hrel
              by_cases hlt2 : j < nc
              · have hltz2 : (j : Int) < (nc : Int) := by omega
                have hjI : (j : Int) < 40 := by omega
                have hd := hS.drew
                obtain ⟨wd, hwd⟩ : ∃ wd, wd = wr.drew := ⟨_, rfl⟩
                rw [← hwd] at hd
                obtain ⟨g', x', e', hx', k0, k1, k2, k3⟩ := hl_cells HNA.out.symm hd i hlt
                rw [HX.out] at hx'
                cases e'
                obtain rfl := Option.some.inj hx'
                obtain ⟨gc, y, ec, hy, j0, j1, j2, j3⟩ := hl_cells HNC.out.symm hd.p1 j hlt2
                rw [ec] at hd ⊢
                obtain ⟨bq, hbq⟩ : ∃ bq, bq = decide (y = x) := ⟨_, rfl⟩
                have hq2 := fun w0 => theld_eql w0 y x
                rw [← hbq] at hq2
                have hstep : decide (x ∈ lc.take (j + 1)) = (decide (x ∈ lc.take j) || bq) := by
                  obtain ⟨hyl, hye⟩ := List.getElem?_eq_some_iff.1 hy
                  rw [List.take_succ_eq_append_getElem hyl, hye, hbq]
                  by_cases h1 : x ∈ lc.take j
                  · simp [h1]
                  · by_cases h2 : y = x
                    · simp [h2]
                    · have h3 : ¬ x = y := fun e => h2 e.symm
                      simp [h1, h2, h3]
                have HST := Lib.hid hstep
                have HWD := Lib.hid hwd
                have HD2 := Lib.hid hd
                have HB0 := HB
                obtain ⟨xa, xb, xc, xd⟩ := x
                obtain ⟨ya, yb, yc, yd⟩ := y
                dsimp only at k0 k1 k2 k3 j0 j1 j2 j3 hq2
                clear hd hwd hx' hS hy hbq hstep HS ec
                cases hb with
                | false =>
                  go_wp2_with fail
                  refine wp_region_canon rfl (fun _ => True) [(0, .p), (1, .p), (2, .p), (3, .p), (4, .p), (5, .t), (6, .p), (7, .p), (8, .p), (9, .t), (10, .p), (11, .p), (12, .p)] (by kernel_rfl) ?_
                  have hS0 : True := trivial
                  rw [← HWD.out]
                  (repeat ((first | (refine C_p (v := ?_) rfl rfl (fun w' => ?_) ?_; rotate_left; (go_simp; with_reducible rfl)) | (refine C_s (v := ?_) rfl rfl hS0 (fun w' hS => ?_) ?_; rotate_left; ((try dsimp only at hS); go_simp; with_reducible rfl)) | (refine C_t (v := ?_) rfl rfl ?_ ?_; rotate_left; (go_simp; with_reducible rfl)) | (refine C_po rfl rfl ?_) | (refine C_so rfl rfl hS0 ?_) | (refine C_to rfl rfl ?_)); simp only [Act.put, List.setIfInBounds_toArray, List.set_cons_zero, List.set_cons_succ]))
                  refine C_nil ?_
                  clear k0 k1 k2 k3 j0 j1 j2 j3 hq2
                  go_wp2
                  go_roundw
                  case rel => exact ⟨j + 1, bq, by go_num, by omega, rfl, Lib.hid (by rw [HST.out, ← HB0.out]; rfl), HD2.out⟩
                  case measure => simp [intOf]; omega
                | true =>
                  go_wp2_with fail
                  refine wp_region_canon rfl (fun _ => True) [(0, .p), (1, .p), (2, .p), (3, .p), (4, .p), (5, .t), (6, .p), (7, .p), (8, .p), (9, .t), (10, .p), (11, .p), (12, .p)] (by kernel_rfl) ?_
                  have hS0 : True := trivial
                  rw [← HWD.out]
                  (repeat ((first | (refine C_p (v := ?_) rfl rfl (fun w' => ?_) ?_; rotate_left; (go_simp; with_reducible rfl)) | (refine C_s (v := ?_) rfl rfl hS0 (fun w' hS => ?_) ?_; rotate_left; ((try dsimp only at hS); go_simp; with_reducible rfl)) | (refine C_t (v := ?_) rfl rfl ?_ ?_; rotate_left; (go_simp; with_reducible rfl)) | (refine C_po rfl rfl ?_) | (refine C_so rfl rfl hS0 ?_) | (refine C_to rfl rfl ?_)); simp only [Act.put, List.setIfInBounds_toArray, List.set_cons_zero, List.set_cons_succ]))
                  refine C_nil ?_
                  clear k0 k1 k2 k3 j0 j1 j2 j3 hq2
                  go_wp2
                  go_roundw
                  case rel => exact ⟨j + 1, true, by go_num, by omega, rfl, Lib.hid (by rw [HST.out, ← HB0.out]; rfl), HD2.out⟩
                  case measure => simp [intOf]; omega
              · obtain rfl : j = nc := by omega
                have HS2 := Lib.hid hS
                clear hS HS
                go_wp2
                go_meet
                case rel =>
                  refine ⟨hb, rfl, Lib.hid ?_, HS2.out⟩
                  rw [HB.out, List.take_of_length_le (by rw [← HNC.out]; exact Nat.le_refl _)]
          case rest =>
            as_aux_lemma =>
            obtain ⟨bm, rfl, HBM, h18⟩ := hcut
            obtain ⟨g', x', e', hx', -, -, k2, k3⟩ := hl_cells HNA.out.symm h18 i hlt
            rw [HX.out] at hx'
            cases e'
            obtain rfl := Option.some.inj hx'
            obtain ⟨q1, q2, q3⟩ := HLX.out
            have H18 := Lib.hid h18
            obtain ⟨xa, xb, xc, xd⟩ := x
            dsimp only at k2 k3 q1 q2 q3
            have q2' : ¬ (fr : Int) < xc := by omega
            have q3' : ¬ xd < (fr : Int) := by omega
            have HQ1 := Lib.hid q1
            clear hx' h18 HS q1 q2 q3
            by_cases hle : (to1 : Int) ≤ xd
            · obtain rfl : bm = true := by rw [HBM.out]; exact decide_eq_true (HQ1.out.2 hle)
              go_wp2
              go_roundw
              case rel => exact ⟨i + 1, by go_num, by omega, H18.out⟩
              case measure => simp [intOf]; omega
            · obtain rfl : bm = false := by rw [HBM.out]; exact decide_eq_false (fun h => hle (HQ1.out.1 h))
              go_wp2
              go_roundw
              case rel => exact ⟨i + 1, by go_num, by omega, H18.out⟩
              case measure => simp [intOf]; omega
        · obtain rfl : i = na := by omega
          have HS := Lib.hid hS
          clear hS H17
          go_wp2
          go_meet
          case rel => exact HS.out
      /-VED2-/
    case rest =>
      as_aux_lemma =>
      have HL := Lib.hid (lives25_spec hcut)
      clear hcut H17
      go_wp2_with fail
      refine HL.out.mono ?_
      rintro e w20 ⟨rfl, h20⟩
      have HB := Lib.hid h20.below
      clear h20 HL
      go_wp2
      go_ret
      exact ⟨rfl, HB.out⟩
end Go.Proofs.YtfapiopnjllnnaaGreatDoor
