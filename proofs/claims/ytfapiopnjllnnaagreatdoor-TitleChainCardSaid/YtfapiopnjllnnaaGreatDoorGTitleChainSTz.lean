/- TitleChain, the walk. -/
import Derived.Test.YtfapiopnjllnnaaGreatDoorGTitleChainSTy
import Derived.Test.YtfapiopnjllnnaaGreatDoorGTitleChain50
import Derived.Test.YtfapiopnjllnnaaGreatDoorGTitleChain39
import Derived.Deep.DeepCutAuto
import Derived.Deep.CutBlock
namespace Go.Proofs.YtfapiopnjllnnaaGreatDoor
open Go.RowKit PA
theorem sorted_cell {J : Mem} {g : Nat} {L : List Ac} (hc : cellsAt (some ⟨g, 0, none⟩) (acs L) J) {i : Nat} {x : Ac} (hx : L[i]? = some x) (j : Nat) (hj : j < 19) {w' : World} (he : Ext J w') : w'.cell? ⟨g, i * 19 + j, none⟩ = x.cells[j]? := by
  obtain ⟨hi, e⟩ := List.getElem?_eq_some_iff.1 hx
  have hne : acs L ≠ [] := fun e => by have := congrArg List.length e; rw [acs_len, List.length_nil] at this; omega
  obtain ⟨b, o, e2, hcell⟩ := cells_ext hc hne
  cases e2
  have h1 := acs_at L i hi j hj
  rw [e] at h1
  have h2 : (x.cells[j]?).isSome = true := by rw [List.getElem?_eq_getElem (show j < x.cells.length by exact hj)]; rfl
  obtain ⟨v, hv⟩ := Option.isSome_iff_exists.1 h2
  rw [hv] at h1 ⊢
  have := hcell w' he _ v h1
  rw [Nat.zero_add] at this
  exact this
theorem idx_cell {W w : World} {A : Assn} {a : Option Addr} {n c : Nat} {C : List Stp} (hn : C.length = n) (h : Sat W w (sep (osl 3 1 a n c ((C.map fun s => (s.1 : Int)).map iv)) A)) (k : Nat) (hk : k < n) :
    ∃ g t, a = some ⟨g, 0, none⟩ ∧ C[k]? = some t ∧ w.cell? ⟨g, k, none⟩ = some (.int .i64 (t.1 : Int)) := by
  have hkl : k < C.length := by omega
  obtain ⟨g, rfl, hc⟩ := h.osl_at (fun e => by have := congrArg List.length e; simp at this; rw [this] at hkl; simp at hkl)
  refine ⟨g, C[k], rfl, List.getElem?_eq_getElem hkl, hc k _ ?_⟩
  rw [List.getElem?_map, List.getElem?_map, List.getElem?_eq_getElem hkl]; rfl
set_option maxRecDepth 100000 in
set_option maxHeartbeats 16000000 in
theorem titleChain_walk (a0 : Option Addr) (len0 cap0 : Nat) (z0 : List Int) (a1 : Int) (w : World) (hW : WholeOK w)
    (w0 : IsArg w a0 len0 cap0 z0) (w1 : (Lit.int .i64 a1).wf = true) :
    Calls Tryz.prog 7 #[.slice a0 len0 cap0, .int .i64 a1] w fun e w' => e = .returned (.bool true) ∧ Below w.heap.size w w' := by
  obtain ⟨l, rfl, hr0, h64⟩ := argI w0
  have i1 := i64_of_wf w1
  have hscr := Lib.hid (script25_spec a0 cap0 l hr0 h64 (Sat.startKn w))
  obtain ⟨x1, hx1⟩ : ∃ x : Nat, aroundI a1 40 = (x : Int) := ⟨(aroundI a1 40).toNat, by have := aroundI_lt a1 40 (by omega); omega⟩
  have hb1 : x1 < 40 := by have := aroundI_lt a1 40 (by omega); omega
  have ha1 := fun w' => around_spec a1 40 w' i1.1 i1.2 (by omega) (by omega)
  simp only [hx1] at ha1
  have HA1 := Lib.hid ha1
  obtain ⟨fr, hfr⟩ : ∃ fr : Nat, fr = 100 + x1 := ⟨_, rfl⟩
  have e1 : (100 : Int) + (x1 : Int) = (fr : Int) := by omega
  have HD : Hid (100 ≤ fr ∧ fr < 140) := Lib.hid (by omega)
  have hb3 : fr < 140 := by omega
  obtain ⟨ll, hll⟩ : ∃ ll, ll = l.length := ⟨_, rfl⟩
  rw [← hll] at hscr ⊢
  clear hr0 h64 w0 w1 i1 hx1 ha1 hfr hll hW
  go_enter Tryz.func7, Tryz.ntmps7
  go_wp2_with fail
  refine hscr.out.mono ?_
  rintro e w1 ⟨g, n, c', J, rfl, hn, hle, hsw, hc, h1⟩
  have HNN := Lib.hid hn
  have HH1 := Lib.hid (And.intro hle (And.intro hsw (And.intro hc h1)))
  have hn40 : n < 40 := by rw [hn, scrP_len]; have := scrN_le l; omega
  clear hn hle hsw hc h1 hscr
  go_wp2_with fail
  refine (HA1.out _).mono ?_
  rintro e w2 ⟨rfl, rfl⟩
  have hn0 : 0 < n := by rw [HNN.out]; simp [scrP]
  have HSRT := Lib.hid (sortK_spec ⟨g, 0, none⟩ n c' (scrP l) HNN.out.symm (scrP_key l) hn0 hn40 HH1.out.2.1 HH1.out.2.2.1 HH1.out.2.2.2)
  clear HA1 hn0
  go_wp2_with fail
  refine HSRT.out.mono ?_
  rintro e w3 ⟨g8, c8, J8, rfl, hle8, hc8a, hc8b, hc8, h8⟩
  have hsup : ∀ k, (finT 2 fr fil2 (scrP l) k).isSome = true → 0 ≤ k ∧ k < (10001 : Nat) := fun k hk => by
    rw [scrS_fin] at hk; have := scrS_dom l fr k hk; omega
  have HO1 := Lib.hid (owners_ok 2 fr fil2 ⟨g, 0, none⟩ n c' (scrP l) HNN.out.symm (by rw [HNN.out]; simp [scrP]) hn40 (scrP_key l) (scrP_fine l) HH1.out.2.1 (cellsAt_mono hle8 HH1.out.2.2.1) (scrP_filed l) (scrP_err l fr (by have := HD.out; omega) (by omega)) hsup h8)
  have HLE8 := Lib.hid hle8
  have HC8 := Lib.hid hc8
  clear HSRT hle8 hc8a hc8b hc8 h8 hsup
  go_wp2_with fail
  refine HO1.out.mono ?_
  rintro e w4 ⟨own, a4, c4, J4, rfl, ho, hle4, h4⟩
  rw [scrS_fin] at ho
  obtain ⟨no, hno⟩ : ∃ no, no = own.length := ⟨_, rfl⟩
  rw [← hno] at h4 ⊢
  have hno10 : no ≤ 10 := by
    have e := ownsN_of (n := 10) (fun k hk => by have := scrS_dom l fr k hk; omega) ho
    have : (ownsN (scrS l fr) 10).length ≤ 10 := by
      unfold ownsN ownsP
      exact Nat.le_trans (List.length_filterMap_le _ _) (by simp)
    rw [hno, e]; exact this
  have HOW := Lib.hid ho
  have HNO := Lib.hid hno
  have HC4 := Lib.hid (cellsAt_mono hle4 HC8.out)
  have HG4 := Lib.hid (cellsAt_mono (Mem.le_trans HLE8.out hle4) HH1.out.2.2.1)
  have H4 := Lib.hid h4
  clear HO1 ho hno hle4 h4 HC8 HLE8
  go_upto_block 0 with (fail)
  clear e1
  go_cut [10] from 11 (fun _ wx => Sat w wx (sep (osl 46 3 a4 no c4 (ownC own)) (sep (kn J4) emp)))
  case first =>
    as_aux_lemma =>
    go_wp2
    go_loopw [10] (fun iv wr => ∃ i : Nat, iv = .int .i64 i ∧ i ≤ no ∧ Sat w wr (sep (osl 46 3 a4 no c4 (ownC own)) (sep (kn J4) emp))) (fun iv _ => no + 1 - (intOf iv).toNat)
    case atStart => exact ⟨0, rfl, by omega, H4.out⟩
    case round =>
      obtain ⟨i, rfl, hi, hS⟩ := hrel
      by_cases hlt : i < no
      · have hltz : (i : Int) < (no : Int) := by omega
        have hiI : (i : Int) ≤ 10 := by omega
        obtain ⟨go, xp, r, e4, hx, k0, -, -⟩ := own_cells HNO.out.symm hS i hlt
        rw [e4] at hS ⊢
        obtain ⟨hxl, hxe⟩ := List.getElem?_eq_some_iff.1 hx
        have hown := (HOW.out.mem xp r).1 (by rw [← hxe]; exact List.getElem_mem hxl)
        have hdom := scrS_dom l fr xp (by rw [hown.1]; rfl)
        have hshare : 0 < (shareP (scrS l fr) xp).n := by unfold shareP; rw [hown.1]; exact hown.2
        have hch := chain_ok 2 fr xp fil2 ⟨g, 0, none⟩ n c' (scrP l) HNN.out.symm (by rw [HNN.out]; simp [scrP]) hn40 (scrP_key l) (scrP_fine l) HH1.out.2.1 HG4.out (scrP_filed l) (scrP_err l fr (by have := HD.out; omega) (by omega)) (by rw [scrS_fin]; omega) (show Sat w wr (sep (kn J4) (sep (osl 46 3 (some ⟨go, 0, none⟩) no c4 (ownC own)) emp)) from hS.p1)
        rw [chainT_eq] at hch
        obtain ⟨C, hC⟩ : ∃ C, C = chL xp (doneT 2 fr fil2 (scrP l)) := ⟨_, rfl⟩
        rw [← hC] at hch
        have hCl : C.length ≤ 40 := by
          have h1 := doneT_len 2 fr fil2 (scrP l)
          rw [← HNN.out] at h1
          have h2 : ∀ L : List Stp, (chL xp L).length ≤ L.length := fun L => by
            induction L with
            | nil => exact Nat.le_refl _
            | cons s L ih => rw [chL]; split <;> simp <;> omega
          rw [hC]
          have := h2 (doneT 2 fr fil2 (scrP l))
          omega
        rw [List.length_map] at hch
        obtain ⟨nc, hnc⟩ : ∃ nc, nc = C.length := ⟨_, rfl⟩
        rw [← hnc] at hch hCl
        have HCH := Lib.hid hch
        have HNC := Lib.hid hnc
        have HCC := Lib.hid hC
        have HX := Lib.hid (And.intro hx (And.intro hshare hdom))
        clear hS hxl hxe hown hdom hshare hch hC hnc hx e4 H4
        go_wp2_with fail
        refine HCH.out.mono ?_
        rintro e w5 ⟨ac, cc, J5, rfl, hle5, h5⟩
        have HLE5 := Lib.hid hle5
        have H5 : Hid (Sat w w5 (sep (osl 3 1 ac nc cc ((C.map fun s => (s.1 : Int)).map iv)) (sep (osl 46 3 (some ⟨go, 0, none⟩) no c4 (ownC own)) (sep (kn J5) emp)))) := Lib.hid (by
          simpa only [sep_comm, sep_lcomm, sep_assoc] using h5)
        obtain ⟨go', xp', r', e4', hx', k0', -, -⟩ := own_cells HNO.out.symm H5.out.p1 i hlt
        rw [HX.out.1] at hx'
        cases e4'
        obtain ⟨rfl, rfl⟩ := Prod.ext_iff.1 (Option.some.inj hx')
        dsimp only at k0'
        clear HCH hle5 h5 k0 hx'
        by_cases hx1 : xp = 1
        · rw [hx1] at k0'
          have HEND : Hid (Sat w w5 (sep (osl 46 3 (some ⟨go, 0, none⟩) no c4 (ownC own)) (sep (kn J4) emp))) := Lib.hid (H5.out.drop.p1.kn_mono HLE5.out).p1
          clear H5
          go_wp2
          go_roundw
          case rel => exact ⟨i + 1, by go_num, by omega, HEND.out⟩
          case measure => simp [intOf]; omega
        · have hlaw := chain_law l fr xp HX.out.2.1 hx1
          rw [← HCC.out] at hlaw
          have HLAW := Lib.hid hlaw
          have hz1 : (xp == 1) = false := by simpa using hx1
          have HC5 := Lib.hid (cellsAt_mono HLE5.out HC4.out)
          clear hlaw hx1
          go_upto_block 2 with (fail)
          clear k0'
          go_cut [13] from 44 to 207 (fun _ wx => Sat w wx (sep (osl 3 1 ac nc cc ((C.map fun s => (s.1 : Int)).map iv)) (sep (osl 46 3 (some ⟨go, 0, none⟩) no c4 (ownC own)) (sep (kn J5) emp))))
          case first =>
            as_aux_lemma =>
            /-DEV1-/
            go_wp2
            go_loopw [13] (fun kv wr => ∃ k : Nat, kv = .int .i64 k ∧ k ≤ nc ∧ Sat w wr (sep (osl 3 1 ac nc cc ((C.map fun s => (s.1 : Int)).map iv)) (sep (osl 46 3 (some ⟨go, 0, none⟩) no c4 (ownC own)) (sep (kn J5) emp)))) (fun kv _ => nc + 1 - (intOf kv).toNat)
            case atStart => exact ⟨0, rfl, by omega, H5.out⟩
            case round =>
              obtain ⟨k, rfl, hk, hS⟩ := hrel
              by_cases hlt2 : k < nc
              · have hltz2 : (k : Int) < (nc : Int) := by omega
                have hkI : (k : Int) ≤ 40 := by omega
                obtain ⟨gc, t, ec, ht, m0⟩ := idx_cell HNC.out.symm hS k hlt2
                obtain ⟨htl, hte⟩ := List.getElem?_eq_some_iff.1 ht
                obtain ⟨q1, q2, q3, q4⟩ := HLAW.out.1 t (by rw [← hte]; exact List.getElem_mem htl)
                have hi0n : t.1 < n := by
                  have := (List.getElem?_eq_some_iff.1 q1).1
                  rw [sortK_len, ← HNN.out] at this
                  exact this
                have hgood := HLAW.out.2.1.at k (by rw [← HNC.out]; exact hlt2)
                rw [hte] at hgood
                rw [ec] at hS ⊢
                have hext : Ext J5 wr := hS.p2.ext
                have c0 : wr.cell? ⟨g8, t.1 * 19, none⟩ = some (.int .i64 t.2.k) := sorted_cell HC5.out q1 0 (by omega) hext
                have c1 : wr.cell? ⟨g8, t.1 * 19 + 1, none⟩ = some (.int .i64 t.2.d) := sorted_cell HC5.out q1 1 (by omega) hext
                have c3 : wr.cell? ⟨g8, t.1 * 19 + 3, none⟩ = some (.int .i64 t.2.f) := sorted_cell HC5.out q1 3 (by omega) hext
                have hd := hS.drew
                obtain ⟨wd, hwd⟩ : ∃ wd, wd = wr.drew := ⟨_, rfl⟩
                rw [← hwd] at hd
                obtain ⟨gc', t', ec', ht', m1⟩ := idx_cell HNC.out.symm hd k hlt2
                cases ec'
                obtain rfl : t = t' := Option.some.inj (ht.symm.trans ht')
                have c6 : wd.cell? ⟨g8, t.1 * 19 + 6, none⟩ = some (.int .i64 t.2.q) := sorted_cell HC5.out q1 6 (by omega) hd.p2.ext
                obtain ⟨go', xp', r', e4', hx', kx, -, -⟩ := own_cells HNO.out.symm hd.p1 i hlt
                rw [HX.out.1] at hx'
                cases e4'
                obtain ⟨rfl, rfl⟩ := Prod.ext_iff.1 (Option.some.inj hx')
                dsimp only at kx
                have HQ6 : Hid (∀ w', Ext J5 w' → w'.cell? ⟨g8, t.1 * 19 + 6, none⟩ = some (.int .i64 t.2.q)) := Lib.hid fun w' he => sorted_cell HC5.out q1 6 (by omega) he
                have HGD := Lib.hid hgood
                rw [q2] at c0
                rw [q3] at c3
                obtain ⟨i0, x⟩ := t
                dsimp only at m0 c0 c1 c3 m1 c6 hi0n q4
                have hi0z : (i0 : Int) < (n : Int) := by omega
                have q4' : ¬ (fr : Int) < x.d := by omega
                have HK := Lib.hid (And.intro m1 (And.intro c6 kx))
                have HWD := Lib.hid hwd
                have HDD := Lib.hid hd
                have HT := Lib.hid ht
                clear hS hx' ht' htl hte q1 q2 q3 q4 hgood hext hd hwd m1 c6 kx ht H5 ec hi0n
                go_upto_region 19 with (fail)
                clear m0 c0 c1 c3
                obtain ⟨m1, c6, kx⟩ := HK.out
                refine wp_region_canon rfl (fun _ => True) [(0, .p), (1, .p), (2, .p), (3, .p), (4, .t), (5, .p), (6, .p), (7, .t), (8, .p), (9, .p), (10, .p), (11, .p), (12, .t), (13, .p), (14, .p)] (by kernel_rfl) ?_
                have hS0 : True := trivial
                rw [← HWD.out]
                (repeat ((first | (refine C_p (v := ?_) rfl rfl (fun w' => ?_) ?_; rotate_left; (go_simp; with_reducible rfl)) | (refine C_s (v := ?_) rfl rfl hS0 (fun w' hS => ?_) ?_; rotate_left; ((try dsimp only at hS); go_simp; with_reducible rfl)) | (refine C_t (v := ?_) rfl rfl ?_ ?_; rotate_left; (go_simp; with_reducible rfl)) | (refine C_po rfl rfl ?_) | (refine C_so rfl rfl hS0 ?_) | (refine C_to rfl rfl ?_)); simp only [Act.put, List.setIfInBounds_toArray, List.set_cons_zero, List.set_cons_succ]))
                refine C_nil ?_
                clear m1 c6 kx
                obtain ⟨bq, hbq⟩ : ∃ bq : Bool, bq = (x.q == xp) := ⟨_, rfl⟩
                have HBQ := Lib.hid hbq
                rw [← hbq]
                clear hbq
                go_upto_block 4 with (fail)
                go_cut [14] from 63 to 176 (fun lv wx => lv = .bool true ∧ Sat w wx (sep (osl 3 1 (some ⟨gc, 0, none⟩) nc cc ((C.map fun s => (s.1 : Int)).map iv)) (sep (osl 46 3 (some ⟨go, 0, none⟩) no c4 (ownC own)) (sep (kn J5) emp))))
                case first =>
                  as_aux_lemma =>
                  /-DEV3-/
                  go_wp2
                  go_loopw [15, 14] (fun jv lv wr => ∃ (j : Nat) (hb : Bool), jv = .int .i64 j ∧ k + 1 ≤ j ∧ j ≤ nc ∧ lv = .bool hb ∧ Hid (hb = (decide (x.q = xp) || ((C.take j).drop (k + 1)).any fun t => decide (t.2.p = x.q))) ∧ Sat w wr (sep (osl 3 1 (some ⟨gc, 0, none⟩) nc cc ((C.map fun s => (s.1 : Int)).map iv)) (sep (osl 46 3 (some ⟨go, 0, none⟩) no c4 (ownC own)) (sep (kn J5) emp)))) (fun jv _ _ => nc + 1 - (intOf jv).toNat)
                  case atStart =>
                    refine ⟨k + 1, bq, by go_num, by omega, by omega, rfl, Lib.hid ?_, HDD.out⟩
                    rw [List.drop_eq_nil_of_le (by rw [List.length_take]; omega), HBQ.out, List.any_nil, Bool.or_false]
                    by_cases e : x.q = xp <;> simp [e]
                  case round =>
                    obtain ⟨j, hb, rfl, hj1, hj2, rfl, HB, hS⟩ := hrel
                    by_cases hlt3 : j < nc
                    · have hltz3 : (j : Int) < (nc : Int) := by omega
                      have hjI : (j : Int) ≤ 40 := by omega
                      have hd := hS.drew
                      obtain ⟨we, hwe⟩ : ∃ we, we = wr.drew := ⟨_, rfl⟩
                      rw [← hwe] at hd
                      obtain ⟨gc', y, ec', hy, m2⟩ := idx_cell HNC.out.symm hd j hlt3
                      cases ec'
                      obtain ⟨gc', t', ec', ht', m1⟩ := idx_cell HNC.out.symm hd k hlt2
                      cases ec'
                      obtain rfl := Option.some.inj (HT.out.symm.trans ht')
                      obtain ⟨hyl, hye⟩ := List.getElem?_eq_some_iff.1 hy
                      obtain ⟨q1, -, -, -⟩ := HLAW.out.1 y (by rw [← hye]; exact List.getElem_mem hyl)
                      have hj0n : y.1 < n := by
                        have := (List.getElem?_eq_some_iff.1 q1).1
                        rw [sortK_len, ← HNN.out] at this
                        exact this
                      have c6 := HQ6.out we hd.p2.ext
                      have c5 : we.cell? ⟨g8, y.1 * 19 + 5, none⟩ = some (.int .i64 y.2.p) := sorted_cell HC5.out q1 5 (by omega) hd.p2.ext
                      have hstep : (C.take (j + 1)).drop (k + 1) = (C.take j).drop (k + 1) ++ [y] := by
                        rw [List.take_succ_eq_append_getElem hyl, hye, List.drop_append_of_le_length (by rw [List.length_take]; omega)]
                      have hany : (decide (x.q = xp) || ((C.take (j + 1)).drop (k + 1)).any fun t => decide (t.2.p = x.q)) = (hb || (x.q == y.2.p)) := by
                        rw [hstep, List.any_append, HB.out, Bool.or_assoc]
                        congr 2
                        rw [List.any_cons, List.any_nil, Bool.or_false]
                        by_cases e : y.2.p = x.q
                        · simp [e]
                        · have e' : ¬ x.q = y.2.p := fun h => e h.symm
                          simp [e, e']
                      have HANY := Lib.hid hany
                      obtain ⟨j0, y⟩ := y
                      dsimp only at m2 m1 c6 c5 hj0n
                      have hj0z : (j0 : Int) < (n : Int) := by omega
                      have hj00 : decide ((0 : Int) ≤ (j0 : Int)) = true := decide_eq_true (by omega)
                      have HWE := Lib.hid hwe
                      have HDE := Lib.hid hd
                      clear hd hwe hy hyl hye q1 hj0n hstep hany hS ht' HDD HB
                      cases hb with
                      | false =>
                        go_wp2_with fail
                        refine wp_region_canon rfl (fun _ => True) [(0, .p), (1, .p), (2, .p), (3, .p), (4, .p), (5, .t), (6, .p), (7, .p), (8, .p), (9, .p), (10, .p), (11, .t), (12, .p), (13, .p), (14, .p), (15, .p), (16, .p), (17, .p), (18, .p), (19, .p), (20, .p), (21, .t), (22, .p), (23, .p), (24, .t), (25, .p), (26, .p), (27, .p), (28, .p), (29, .t), (30, .p), (31, .p), (32, .t), (33, .p), (34, .p), (35, .p), (36, .p)] (by kernel_rfl) ?_
                        have hS0 : True := trivial
                        rw [← HWE.out]
                        (repeat ((first | (refine C_p (v := ?_) rfl rfl (fun w' => ?_) ?_; rotate_left; (go_simp; with_reducible rfl)) | (refine C_s (v := ?_) rfl rfl hS0 (fun w' hS => ?_) ?_; rotate_left; ((try dsimp only at hS); go_simp; with_reducible rfl)) | (refine C_t (v := ?_) rfl rfl ?_ ?_; rotate_left; (go_simp; with_reducible rfl)) | (refine C_po rfl rfl ?_) | (refine C_so rfl rfl hS0 ?_) | (refine C_to rfl rfl ?_)); simp only [Act.put, List.setIfInBounds_toArray, List.set_cons_zero, List.set_cons_succ]))
                        refine C_nil ?_
                        clear m1 m2 c5 c6
                        obtain ⟨by_, hby⟩ : ∃ b : Bool, b = (x.q == y.p) := ⟨_, rfl⟩
                        have HBY := Lib.hid hby
                        rw [← hby]
                        clear hby
                        go_wp2
                        go_roundw
                        case rel => exact ⟨j + 1, by_, by go_num, by omega, by omega, rfl, Lib.hid (by rw [HANY.out, HBY.out]; rfl), HDE.out⟩
                        case measure => simp [intOf]; omega
                      | true =>
                        go_wp2_with fail
                        refine wp_region_canon rfl (fun _ => True) [(0, .p), (1, .p), (2, .p), (3, .p), (4, .p), (5, .t), (6, .p), (7, .p), (8, .p), (9, .p), (10, .p), (11, .t), (12, .p), (13, .p), (14, .p), (15, .p), (16, .p), (17, .p), (18, .p), (19, .p), (20, .p), (21, .t), (22, .p), (23, .p), (24, .t), (25, .p), (26, .p), (27, .p), (28, .p), (29, .t), (30, .p), (31, .p), (32, .t), (33, .p), (34, .p), (35, .p), (36, .p)] (by kernel_rfl) ?_
                        have hS0 : True := trivial
                        rw [← HWE.out]
                        (repeat ((first | (refine C_p (v := ?_) rfl rfl (fun w' => ?_) ?_; rotate_left; (go_simp; with_reducible rfl)) | (refine C_s (v := ?_) rfl rfl hS0 (fun w' hS => ?_) ?_; rotate_left; ((try dsimp only at hS); go_simp; with_reducible rfl)) | (refine C_t (v := ?_) rfl rfl ?_ ?_; rotate_left; (go_simp; with_reducible rfl)) | (refine C_po rfl rfl ?_) | (refine C_so rfl rfl hS0 ?_) | (refine C_to rfl rfl ?_)); simp only [Act.put, List.setIfInBounds_toArray, List.set_cons_zero, List.set_cons_succ]))
                        refine C_nil ?_
                        clear m1 m2 c5 c6
                        go_wp2
                        go_roundw
                        case rel => exact ⟨j + 1, true, by go_num, by omega, by omega, rfl, Lib.hid (by rw [HANY.out]; rfl), HDE.out⟩
                        case measure => simp [intOf]; omega
                    · obtain rfl : j = nc := by omega
                      have hbt : hb = true := by
                        rw [HB.out, List.take_of_length_le (by rw [← HNC.out]; exact Nat.le_refl _), Bool.or_eq_true, decide_eq_true_eq, List.any_eq_true]
                        rcases HGD.out with h1 | ⟨t, h1, h2⟩
                        · exact .inl h1
                        · exact .inr ⟨t, h1, by simpa using h2⟩
                      have HS := Lib.hid hS
                      subst hbt
                      clear hS HB HDD
                      go_wp2
                      go_meet
                      case rel => exact ⟨rfl, HS.out⟩
                  /-VED3-/
                case rest =>
                  as_aux_lemma =>
                  obtain ⟨rfl, h9⟩ := hcut
                  have H9 := Lib.hid h9
                  clear h9 HDD
                  go_wp2
                  go_roundw
                  case rel => exact ⟨k + 1, by go_num, by omega, H9.out⟩
                  case measure => simp [intOf]; omega
              · obtain rfl : k = nc := by omega
                have HS := Lib.hid hS
                clear hS H5
                go_wp2
                go_meet
                case rel => exact HS.out
            /-VED1-/
          case rest =>
            as_aux_lemma =>
            /-DEV2-/
            have HEND : Hid (Sat w wc (sep (osl 46 3 (some ⟨go, 0, none⟩) no c4 (ownC own)) (sep (kn J4) emp))) := Lib.hid (hcut.drop.p1.kn_mono HLE5.out).p1
            obtain ⟨h0, tl, hCe, hp1⟩ := HLAW.out.2.2
            have hnc0 : 0 < nc := by rw [HNC.out, hCe]; simp
            have hCl0 : 0 < C.length := by rw [← HNC.out]; exact hnc0
            have hlast := HLAW.out.2.1.last hCl0
            have hd := hcut.drew
            obtain ⟨wd, hwd⟩ : ∃ wd, wd = wc.drew := ⟨_, rfl⟩
            rw [← hwd] at hd
            obtain ⟨nl, hnl⟩ : ∃ nl, nl = nc - 1 := ⟨_, rfl⟩
            obtain ⟨gc, t0, ec, ht0, m0⟩ := idx_cell HNC.out.symm hd 0 hnc0
            obtain ⟨gc', tL, ec', htL, mL⟩ := idx_cell HNC.out.symm hd nl (by omega)
            rw [ec] at ec' hd hcut ⊢
            cases ec'
            have e0 : t0 = h0 := by rw [hCe] at ht0; exact (Option.some.inj ht0).symm
            rw [← e0] at hp1
            obtain ⟨hLl, hLe⟩ := List.getElem?_eq_some_iff.1 htL
            have eL : tL.2.q = xp := by
              rw [← hLe, ← hlast]
              congr 3
              rw [hnl, HNC.out]
            obtain ⟨h0l, h0e⟩ := List.getElem?_eq_some_iff.1 ht0
            obtain ⟨q1, -, -, -⟩ := HLAW.out.1 t0 (by rw [← h0e]; exact List.getElem_mem h0l)
            obtain ⟨r1, -, -, -⟩ := HLAW.out.1 tL (by rw [← hLe]; exact List.getElem_mem hLl)
            have b0 : t0.1 < n := by
              have := (List.getElem?_eq_some_iff.1 q1).1
              rw [sortK_len, ← HNN.out] at this
              exact this
            have bL : tL.1 < n := by
              have := (List.getElem?_eq_some_iff.1 r1).1
              rw [sortK_len, ← HNN.out] at this
              exact this
            have c5 : wd.cell? ⟨g8, t0.1 * 19 + 5, none⟩ = some (.int .i64 t0.2.p) := sorted_cell HC5.out q1 5 (by omega) hd.p2.ext
            have c6 : wd.cell? ⟨g8, tL.1 * 19 + 6, none⟩ = some (.int .i64 tL.2.q) := sorted_cell HC5.out r1 6 (by omega) hd.p2.ext
            rw [hp1] at c5
            rw [eL] at c6
            obtain ⟨go', xp', r', e4', hx', kx, -, -⟩ := own_cells HNO.out.symm hd.p1 i hlt
            rw [HX.out.1] at hx'
            cases e4'
            obtain ⟨rfl, rfl⟩ := Prod.ext_iff.1 (Option.some.inj hx')
            dsimp only at kx
            obtain ⟨i0, x0⟩ := t0
            obtain ⟨iL, xL⟩ := tL
            dsimp only at m0 mL c5 c6 b0 bL
            have b0z : (i0 : Int) < (n : Int) := by omega
            have bLz : (iL : Int) < (n : Int) := by omega
            have hw1 : IntKind.i64.wrap ((nc : Int) - 1) = (nl : Int) := by rw [IntWalk.i64_in _ ⟨by omega, by omega⟩]; omega
            have hnlz : (nl : Int) < (nc : Int) := by omega
            have hnz : ¬ nc = 0 := by omega
            have hnz2 : ((nc : Int) == 0) = false := by simp; omega
            have hnz3 : (0 : Int) < (nc : Int) := by omega
            have HWD := Lib.hid hwd
            clear hcut hCe hp1 hCl0 hlast hd hwd hnl ht0 htL e0 hLl hLe eL h0l h0e q1 r1 b0 bL hx' H5 ec
            go_wp2_with fail
            refine wp_region_canon rfl (fun _ => True) [(0, .p), (1, .p), (2, .p), (3, .p), (4, .p), (5, .p), (6, .p), (7, .t), (8, .p), (9, .p), (10, .t), (11, .p), (12, .p), (13, .p), (14, .p), (15, .p), (16, .p), (17, .p), (18, .p), (19, .p), (20, .t), (21, .p), (22, .p), (23, .t), (24, .p), (25, .p), (26, .p), (27, .p), (28, .t), (29, .p), (30, .p)] (by kernel_rfl) ?_
            have hS0 : True := trivial
            rw [← HWD.out]
            (repeat ((first | (refine C_p (v := ?_) rfl rfl (fun w' => ?_) ?_; rotate_left; (go_simp; with_reducible rfl)) | (refine C_s (v := ?_) rfl rfl hS0 (fun w' hS => ?_) ?_; rotate_left; ((try dsimp only at hS); go_simp; with_reducible rfl)) | (refine C_t (v := ?_) rfl rfl ?_ ?_; rotate_left; (go_simp; with_reducible rfl)) | (refine C_po rfl rfl ?_) | (refine C_so rfl rfl hS0 ?_) | (refine C_to rfl rfl ?_)); simp only [Act.put, List.setIfInBounds_toArray, List.set_cons_zero, List.set_cons_succ]))
            refine C_nil ?_
            clear m0 mL c5 c6 kx hw1
            go_wp2
            go_roundw
            case rel =>
              refine ⟨i + 1, by go_num, by omega, ?_⟩
              exact HEND.out.drew.alike (by rw [HWD.out]) (by rw [HWD.out]) (by rw [HWD.out]) (by rw [HWD.out])
            case measure => simp [intOf]; omega
            /-VED2-/
      · obtain rfl : i = no := by omega
        have HS := Lib.hid hS
        clear hS H4
        go_wp2
        go_meet
        case rel => exact HS.out
  case rest =>
    as_aux_lemma =>
    have HL := Lib.hid (lives25_spec hcut)
    clear hcut H4
    go_wp2_with fail
    refine HL.out.mono ?_
    rintro e w20 ⟨rfl, h20⟩
    have HB := Lib.hid h20.below
    clear h20 HL
    go_wp2
    go_ret
    exact ⟨rfl, HB.out⟩
end Go.Proofs.YtfapiopnjllnnaaGreatDoor
