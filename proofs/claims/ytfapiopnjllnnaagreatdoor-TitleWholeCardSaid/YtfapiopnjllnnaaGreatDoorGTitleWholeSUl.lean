/- TitleWhole: its walk. -/
import Derived.Test.YtfapiopnjllnnaaGreatDoorGTitleWhole47
import Derived.Test.YtfapiopnjllnnaaGreatDoorGTitleWhole48
import Derived.Test.YtfapiopnjllnnaaGreatDoorGTitleWholeSReg11
import Derived.Test.YtfapiopnjllnnaaGreatDoorGTitleWhole27
import Derived.Laws.StructEq
namespace PA
open Go
theorem sumO_snoc : ∀ (l : List (Int × Rt)) (o : Int × Rt), sumO (l ++ [o]) = sumO l + valR o.2
  | [], o => rfl
  | x :: l, o => by
    show sumO (l ++ [o]) + valR x.2 = sumO l + valR x.2 + valR o.2
    rw [sumO_snoc l o]
    grind
end PA
namespace Go.Proofs.YtfapiopnjllnnaaGreatDoor
open Go.RowKit PA
attribute [local go_sem ↓] buildSlice_i3
attribute [local go_sem] bs_i3
set_option maxRecDepth 100000 in
set_option maxHeartbeats 16000000 in
theorem titleWhole_walk (a0 : Option Addr) (len0 cap0 : Nat) (z0 : List Int) (a1 : Option Addr) (len1 cap1 : Nat) (z1 : List Int) (a2 : Int) (w : World) (_hW : WholeOK w)
    (w0 : IsArg w a0 len0 cap0 z0) (w1 : IsArg w a1 len1 cap1 z1) (w2 : (Lit.int .i64 a2).wf = true) :
    Calls Tryz.prog 6 #[.slice a0 len0 cap0, .slice a1 len1 cap1, .int .i64 a2] w fun e w' => e = .returned (.bool true) ∧ Below w.heap.size w w' := by
  obtain ⟨l, rfl, hr0, h64⟩ := argI w0
  obtain ⟨m, rfl, hr1, h65⟩ := argI w1
  have i2 := i64_of_wf w2
  have hsc := scripts_spec (.slice a0 l.length cap0) (.slice a1 m.length cap1) l m ⟨⟨_, _, rfl⟩, hr0, h64⟩ ⟨⟨_, _, rfl⟩, hr1, h65⟩ (Sat.startKn w)
  obtain ⟨x1, hx1⟩ : ∃ x : Nat, aroundI a2 40 = (x : Int) := ⟨(aroundI a2 40).toNat, by have := aroundI_lt a2 40 (by omega); omega⟩
  obtain ⟨x2, hx2⟩ : ∃ x : Nat, aroundI a2 2000 = (x : Int) := ⟨(aroundI a2 2000).toNat, by have := aroundI_lt a2 2000 (by omega); omega⟩
  obtain ⟨x3, hx3⟩ : ∃ x : Nat, aroundI a2 3 = (x : Int) := ⟨(aroundI a2 3).toNat, by have := aroundI_lt a2 3 (by omega); omega⟩
  have hb1 : x1 < 40 := by have := aroundI_lt a2 40 (by omega); omega
  have hb2 : x2 < 2000 := by have := aroundI_lt a2 2000 (by omega); omega
  have hb3 : x3 < 3 := by have := aroundI_lt a2 3 (by omega); omega
  have HA : Hid (∀ w', Calls Tryz.prog 12 #[.int .i64 a2, .int .i64 40] w' fun e w'' => e = .returned (.int .i64 (x1 : Int)) ∧ w' = w'') := Lib.hid (fun w' => by rw [← hx1]; exact around_spec a2 40 w' i2.1 i2.2 (by omega) (by omega))
  have HB : Hid (∀ w', Calls Tryz.prog 12 #[.int .i64 a2, .int .i64 2000] w' fun e w'' => e = .returned (.int .i64 (x2 : Int)) ∧ w' = w'') := Lib.hid (fun w' => by rw [← hx2]; exact around_spec a2 2000 w' i2.1 i2.2 (by omega) (by omega))
  have HCC : Hid (∀ w', Calls Tryz.prog 12 #[.int .i64 a2, .int .i64 3] w' fun e w'' => e = .returned (.int .i64 (x3 : Int)) ∧ w' = w'') := Lib.hid (fun w' => by rw [← hx3]; exact around_spec a2 3 w' i2.1 i2.2 (by omega) (by omega))
  have hbz1 : (x1 : Int) < 40 := by omega
  have hbz2 : (x2 : Int) < 2000 := by omega
  have hbz3 : (x3 : Int) < 3 := by omega
  obtain ⟨va, hva⟩ : ∃ v, v = Value.slice a0 l.length cap0 := ⟨_, rfl⟩
  obtain ⟨vb, hvb⟩ : ∃ v, v = Value.slice a1 m.length cap1 := ⟨_, rfl⟩
  rw [← hva, ← hvb] at hsc ⊢
  have HSC := Lib.hid hsc
  clear w0 w1 w2 hr0 hr1 h64 h65 _hW hsc hx1 hx2 hx3 hb1 hb2 hb3 hva hvb i2
  go_enter Tryz.func6, Tryz.ntmps6
  go_wp2_with fail
  refine HSC.out.mono ?_
  rintro e w1 ⟨L, v1, v2, v3, z2, z3, J, rfl, hle, hc, h1, h2, h3, g2, g3, l2, l3, hS⟩
  have HL := Lib.hid (lists_at hc h1 h2 h3 g2 g3 l2 l3)
  have HS := Lib.hid hS
  clear hc h1 h2 h3 g2 g3 l2 l3 hS HSC hle
  go_wp2_with fail
  go_loopw [8] (fun iv wr => ∃ (i : Nat) (J1 : Mem), iv = .int .i64 i ∧ i ≤ 3 ∧ Mem.le J J1 ∧ Sat w wr (sep (kn J1) emp)) (fun iv _ => 4 - (intOf iv).toNat)
  case atStart => exact ⟨0, J, rfl, by omega, Mem.le_refl _, HS.out⟩
  case round =>
    obtain ⟨i, J1, rfl, hi3, hle1, hS1⟩ := hrel
    by_cases hlt : i < 3
    · have hltz : (i : Int) < 3 := by omega
      obtain ⟨v, xs, hL⟩ := HL.out i hlt
      have hL1 := hL.mono hle1
      have c1 := hL1.1 wr hS1.ext
      have HFI := Lib.hid (files_ok v xs (by have := hL1.2.2.2; omega) hL1.2.2.1.fil hL1.2.1 hS1)
      have HLL := Lib.hid hL1
      have HLE := Lib.hid (And.intro hle1 hi3)
      clear hL hL1 hS1 hle1 hi3 hlt
      go_wp2_with fail
      refine HFI.out.mono ?_
      rintro e w2 ⟨fa, fc, ys, rfl, hys, h2⟩
      obtain ⟨n, hn⟩ : ∃ n, n = ys.length := ⟨_, rfl⟩
      rw [← hn] at h2 ⊢
      have HY := Lib.hid (And.intro hys hn)
      have H2 := Lib.hid h2
      have hn40 : (n : Int) < 40 := by
        have := hys.length_eq
        have := filsP_le xs
        have := HLL.out.2.2.2
        omega
      clear hys hn h2 HFI c1
      go_wp2_with fail
      go_loopw [10] (fun kv wr => ∃ (k : Nat) (J2 : Mem), kv = .int .i64 k ∧ k ≤ n ∧ Mem.le J1 J2 ∧ Sat w wr (sep (osl 3 1 fa n fc (ys.map PA.iv)) (sep (kn J2) emp))) (fun kv _ => n - (intOf kv).toNat)
      case atStart => exact ⟨0, J1, rfl, Nat.zero_le _, Mem.le_refl _, H2.out⟩
      case round =>
        obtain ⟨k, J2, rfl, hkn, hle2, hS2⟩ := hrel
        by_cases hkl : k < n
        · have hkz : (k : Int) < (n : Int) := by omega
          have hky : k < ys.length := by have := HY.out.2; omega
          obtain ⟨fz, hfz⟩ : ∃ z, ys[k]? = some z := ⟨_, List.getElem?_eq_getElem hky⟩
          have hmem : fz ∈ filsP xs := HY.out.1.subset (List.mem_of_getElem? hfz)
          obtain ⟨b, rfl⟩ : ∃ b, fa = some ⟨b, 0, none⟩ := by
            rcases hS2.osl_cases with ⟨-, h0, -⟩ | ⟨g, cur, rfl, -⟩
            · omega
            · exact ⟨g, rfl⟩
          have hfil : 0 ≤ fz ∧ fz ≤ 4095 := by
            obtain ⟨x, hx, hk0, e⟩ := mem_filsP.1 hmem
            have := ((HLL.out.2.2.1.all x hx).fi hk0).2
            omega
          have HMEM := Lib.hid (And.intro hmem hfz)
          have HK := Lib.hid (And.intro hkn (And.intro hle2 hkl))
          have HS2 := Lib.hid hS2
          clear hmem hfz hky hkn hle2 hkl hS2
          go_upto_region 9 with (fail)
          go_wp2_with fail
          refine (HA.out _).mono ?_
          rintro e w3 ⟨rfl, rfl⟩
          go_wp2_with fail
          refine (HB.out _).mono ?_
          rintro e w3 ⟨rfl, rfl⟩
          obtain ⟨D, hD⟩ : ∃ D, D = wr.heap.size := ⟨_, rfl⟩
          have ha := HS2.out.alloc (.cells #[.int .i64 (100 + (x1 : Int)), .int .i64 (36000 + (x2 : Int)), .int .i64 131072] 3)
          obtain ⟨w4, hw4⟩ : ∃ z, z = wr.alloc (.cells #[.int .i64 (100 + (x1 : Int)), .int .i64 (36000 + (x2 : Int)), .int .i64 131072] 3) := ⟨_, rfl⟩
          rw [← hD, ← hw4] at ha
          obtain ⟨dd, hcd, hd1, hd2⟩ : ∃ dd : Int, w4.cell? ⟨D, x3, none⟩ = some (.int .i64 dd) ∧ 100 ≤ dd ∧ dd ≤ 131072 := by
            have hx3 : x3 = 0 ∨ x3 = 1 ∨ x3 = 2 := by omega
            rcases hx3 with rfl | rfl | rfl
            · exact ⟨_, ha.cell 0, by omega, by omega⟩
            · exact ⟨_, ha.cell 1, by omega, by omega⟩
            · exact ⟨_, ha.cell 2, by omega, by omega⟩
          have HS4 := Lib.hid ha.forget
          have HW4 := Lib.hid (And.intro hD hw4)
          have HDD := Lib.hid (And.intro hd1 hd2)
          clear ha hD hw4 hd1 hd2 HS2
          go_wp2_with fail
          rw [← HW4.out.2]
          refine (HCC.out _).mono ?_
          rintro e w3 ⟨rfl, rfl⟩
          rw [← HW4.out.1]
          go_upto_region 10 with (fail)
          have hd := HS4.out.drew
          have cf : w4.drew.cell? ⟨b, k, none⟩ = some (.int .i64 fz) := by
            have h9 := hd.osl_settle.rsl_src k (PA.iv fz) (by rw [List.getElem?_map, HMEM.out.2]; rfl)
            have e : (⟨b, 0, none⟩ : Addr).add k = ⟨b, k, none⟩ := by unfold Addr.add; split <;> simp_all
            rw [e] at h9; exact h9
          have hL2 := HLL.out.mono HK.out.2.1
          have cv := hL2.1 w4.drew hd.p1.ext
          have HOW := Lib.hid (owners_any fz dd v xs (hL2.2.2.1.ok hL2.2.2.2) hL2.2.1 hd.p1)
          obtain ⟨er, her⟩ : ∃ er, er = titleErr fz dd (sortK xs) := ⟨_, rfl⟩
          have her2 : er = 0 ∨ er = 7 := by
            rw [her]
            unfold titleErr
            rw [if_neg (by have := HDD.out; omega)]
            cases filedT fz (sortK xs) with
            | none => exact .inr rfl
            | some f =>
              by_cases hq : dd < f.d
              · exact .inr (by simp only [if_pos hq])
              · exact .inl (by simp only [if_neg hq])
          rw [← her] at HOW
          have HER := Lib.hid her
          have hi4 : (i : Int) < 4 := by omega
          clear hd hL2 her hcd
          refine wp_region_canon rfl (fun _ => True) [(0, .p), (1, .p), (2, .p), (3, .t), (4, .p), (5, .p), (6, .p), (7, .p), (8, .t), (9, .e false), (10, .p), (11, .p), (12, .p), (13, .p), (14, .p)] (by kernel_rfl) ?_
          have hS0 : True := trivial
          (repeat ((first | (refine C_p (v := ?_) rfl rfl (fun w' => ?_) ?_; rotate_left; (go_simp; with_reducible rfl)) | (refine C_s (v := ?_) rfl rfl hS0 (fun w' hS => ?_) ?_; rotate_left; ((try dsimp only at hS); go_simp; with_reducible rfl)) | (refine C_t (v := ?_) rfl rfl ?_ ?_; rotate_left; (go_simp; with_reducible rfl)) | (refine C_po rfl rfl ?_) | (refine C_so rfl rfl hS0 ?_) | (refine C_to rfl rfl ?_)); simp only [Act.put, List.setIfInBounds_toArray, List.set_cons_zero, List.set_cons_succ]))
          (refine C_e rfl rfl (fun K hK => ?_); go_simp)
          refine HOW.out.mono ?_
          rintro e w5 ⟨own, oa, oc, J3, rfl, hown, hle3, h5⟩
          (refine hK _ _ (fun h => by cases h) ?_; clear hK K; (try simp only [Act.put, List.setIfInBounds_toArray, List.set_cons_zero, List.set_cons_succ]))
          (repeat ((first | (refine C_p (v := ?_) rfl rfl (fun w' => ?_) ?_; rotate_left; (go_simp; with_reducible rfl)) | (refine C_s (v := ?_) rfl rfl hS0 (fun w' hS => ?_) ?_; rotate_left; ((try dsimp only at hS); go_simp; with_reducible rfl)) | (refine C_t (v := ?_) rfl rfl ?_ ?_; rotate_left; (go_simp; with_reducible rfl)) | (refine C_po rfl rfl ?_) | (refine C_so rfl rfl hS0 ?_) | (refine C_to rfl rfl ?_)); simp only [Act.put, List.setIfInBounds_toArray, List.set_cons_zero, List.set_cons_succ]))
          refine C_nil ?_
          obtain ⟨on, hon⟩ : ∃ z, z = own.length := ⟨_, rfl⟩
          rw [← hon] at h5 ⊢
          have H5 := Lib.hid h5
          have HO := Lib.hid (And.intro hown (And.intro hle3 hon))
          clear h5 hown hle3 hon HOW cf cv HS4 HW4
          rcases her2 with rfl | rfl
          · as_aux_lemma =>
            obtain ⟨hsum, hshr, hasc⟩ : sumO own = 1 ∧ (∀ o ∈ own, okR o.2 = true ∧ 0 < o.2.n) ∧ own.Pairwise (fun a b => a.1 < b.1) := by
              rcases HO.out.1 with ⟨h0, f, hf, ho⟩ | ⟨h0, -⟩
              · exact ⟨(own_sum HLL.out.2.2.1 hf ho).1, (own_sum HLL.out.2.2.1 hf ho).2, ho.asc⟩
              · exact absurd HER.out.symm h0
            have HSUM := Lib.hid (And.intro hsum (And.intro hshr hasc))
            have ha := H5.out.alloc (.cells #[.int .i64 0, .int .i64 1] 44)
            obtain ⟨SB, hSB⟩ : ∃ z, z = w5.heap.size := ⟨_, rfl⟩
            obtain ⟨w6, hw6⟩ : ∃ z, z = w5.alloc (.cells #[.int .i64 0, .int .i64 1] 44) := ⟨_, rfl⟩
            rw [← hSB, ← hw6] at ha
            have HA6 := Lib.hid ha
            have HW6 := Lib.hid (And.intro hSB hw6)
            have hon65 : (on : Int) ≤ 9223372036854775807 := by have := H5.out.osl_len; unfold maxLen at this; omega
            clear hsum hshr hasc ha hSB hw6 H5
            go_upto_region 15 with (fail)
            rw [← HW6.out.1, ← HW6.out.2]
            go_wp2_with fail
            go_loopw [15] (fun jv wr => ∃ (j : Nat) (s : Rt), jv = .int .i64 j ∧ j ≤ on ∧ Hid (okR s = true ∧ valR s = sumO (own.take j)) ∧ Sat w wr (sep (blk SB (.cells #[.int .i64 s.n, .int .i64 s.d] 44 (0, 0))) (sep (osl 46 3 oa on oc (ownC own)) (sep (kn J3) (osl 3 1 (some ⟨b, 0, none⟩) n fc (ys.map PA.iv)))))) (fun jv _ => on - (intOf jv).toNat)
            case atStart => exact ⟨0, ⟨0, 1⟩, rfl, Nat.zero_le _, Lib.hid ⟨by decide, by rw [valR_01]; rfl⟩, by have h9 := HA6.out; rw [sep_emp] at h9; exact h9⟩
            case round =>
              obtain ⟨j, s, rfl, hjn, hs, hS6⟩ := hrel
              by_cases hjl : j < on
              · as_aux_lemma =>
                have hjz : (j : Int) < (on : Int) := by omega
                have hjo : j < own.length := by have := HO.out.2.2; omega
                obtain ⟨ob, rfl⟩ : ∃ ob, oa = some ⟨ob, 0, none⟩ := by
                  rcases hS6.p1.osl_cases with ⟨-, h0, -⟩ | ⟨g, cur, rfl, -⟩
                  · omega
                  · exact ⟨g, rfl⟩
                obtain ⟨⟨pj, r⟩, hor⟩ : ∃ o, own[j]? = some o := ⟨_, List.getElem?_eq_getElem hjo⟩
                have hr := HSUM.out.2.1 (pj, r) (List.mem_of_getElem? hor)
                obtain ⟨rr, hrr⟩ : ∃ z, z = addR s r := ⟨_, rfl⟩
                have hadd : Hid (∀ w0 A0, Sat w w0 (sep emp A0) → Calls Tryz.prog 24 #[.agg #[.int .i64 s.n, .int .i64 s.d], .agg #[.int .i64 r.n, .int .i64 r.d]] w0 fun e w' => ∃ v, e = .returned v ∧ Sat w w' (sep (ex fun y : Unit => sep (fact (v = rtRes rr)) emp) A0)) := Lib.hid (by
                  intro w0 A0 h0
                  rw [emp_sep] at h0
                  refine (add_spec s r (RtB.of (okR_spec hs.out.1).1) (RtB.of (okR_spec hr.1).1) h0).mono ?_
                  rintro e w' ⟨rfl, h2⟩
                  refine ⟨_, rfl, ?_⟩
                  rw [ex_sep, Sat.ex]
                  exact ⟨(), by rw [sep_assoc]; exact Sat.fact.2 ⟨by rw [hrr], by rw [emp_sep]; exact h2⟩⟩)
                have hre : rr.2 = 0 ∨ rr.2 = 5 := by
                  rw [hrr]
                  unfold addR
                  rw [if_pos ⟨hs.out.1, hr.1⟩]
                  unfold newR
                  have d1 := (okR_spec hs.out.1).1.d1
                  have d2 : 1 ≤ r.d := (okR_spec hr.1).1.d1
                  rw [if_neg (Int.ne_of_gt (Int.mul_pos (show 0 < s.d by omega) (show 0 < r.d by omega)))]
                  unfold buildR
                  split
                  · exact .inr rfl
                  · exact .inl rfl
                have hcell : ∀ w' (X : Assn), Sat w w' (sep X (sep (blk SB (.cells #[.int .i64 s.n, .int .i64 s.d] 44 (0, 0))) (sep (osl 46 3 (some ⟨ob, 0, none⟩) on oc (ownC own)) (sep (kn J3) (osl 3 1 (some ⟨b, 0, none⟩) n fc (ys.map PA.iv)))))) → (w'.cell? ⟨SB, 0, none⟩ = some (.int .i64 s.n) ∧ w'.cell? ⟨SB, 1, none⟩ = some (.int .i64 s.d)) ∧ w'.cell? ⟨ob, j * 3, none⟩ = some (.int .i64 pj) ∧ w'.cell? ⟨ob, j * 3 + 1, none⟩ = some (.int .i64 r.n) ∧ w'.cell? ⟨ob, j * 3 + 2, none⟩ = some (.int .i64 r.d) := fun w' X h => by
                  have e1 := rt2 h.p1
                  have e2 := own_cell (h.p2) hor
                  exact ⟨⟨e1.1, e1.2.1⟩, e2⟩
                have hd := hS6.drew
                have HD := Lib.hid hd
                have hS0 := hcell wr.drew emp (by rw [emp_sep]; exact hd)
                have HC := Lib.hid hcell
                have HR := Lib.hid (And.intro hrr (And.intro hor hr))
                have HJ := Lib.hid (And.intro hjl hjn)
                clear hd hcell hS6 hrr hor hr hjl hjn hjo
                go_upto_region 18 with (fail)
                refine wp_region_itemsJ rfl (fun w' => (w'.cell? ⟨SB, 0, none⟩ = some (.int .i64 s.n) ∧ w'.cell? ⟨SB, 1, none⟩ = some (.int .i64 s.d)) ∧ w'.cell? ⟨ob, j * 3, none⟩ = some (.int .i64 pj) ∧ w'.cell? ⟨ob, j * 3 + 1, none⟩ = some (.int .i64 r.n) ∧ w'.cell? ⟨ob, j * 3 + 2, none⟩ = some (.int .i64 r.d)) [.one 0 .s, .one 1 .p, .one 2 .p, .one 3 .p, .one 4 .p, .one 5 .s, .grp true [(6, [7, 8, 9]), (10, [])], .one 11 (.e false), .one 12 .p] (by kernel_rfl) ?_
                (repeat ((first | (refine J_p (v := ?_) rfl rfl (fun w' => ?_) ?_; rotate_left; (go_simp; with_reducible rfl)) | (refine J_s (v := ?_) rfl rfl hS0 (fun w' hS => ?_) ?_; rotate_left; ((try dsimp only at hS); go_simp; with_reducible rfl)) | (refine J_t (v := ?_) rfl rfl ?_ ?_; rotate_left; (go_simp; with_reducible rfl)) | (refine J_po rfl rfl ?_) | (refine J_so rfl rfl hS0 ?_) | (refine J_to rfl rfl ?_)); simp only [Act.put, List.setIfInBounds_toArray, List.set_cons_zero, List.set_cons_succ]))
                refine wpJ_threads (W := w) (A := (sep (blk SB (.cells #[.int .i64 s.n, .int .i64 s.d] 44 (0, 0))) (sep (osl 46 3 (some ⟨ob, 0, none⟩) on oc (ownC own)) (sep (kn J3) (osl 3 1 (some ⟨b, 0, none⟩) n fc (ys.map PA.iv)))))) [⟨[(6, [7, 8, 9])], tailA emp (fun (_ : Unit) v => v = rtRes rr) (fun _ => emp) (fun _ => [rtRes rr, .agg #[.int .i64 rr.1.n, .int .i64 rr.1.d], .int .i64 rr.2])⟩, ⟨[(10, [])], tailA emp ptrIs (fun g => blk g (.cells #[.int .i64 0, .int .i64 0] 44 (0, 0))) (fun _ => [])⟩]
                  (fun _ w' X hX => HC.out w' X hX) (by kernel_rfl) ?_ ?_ ?_
                · intro t ht
                  simp only [List.mem_cons, List.not_mem_nil, or_false] at ht
                  rcases ht with rfl | rfl
                  · refine goodG_tail rfl (by intro cs b h; cases h) (doesCall rfl 24 #[.agg #[.int .i64 s.n, .int .i64 s.d], .agg #[.int .i64 r.n, .int .i64 r.d]] (fun w' => ?_) hadd.out) (by kernel_rfl) ?_
                    · (go_simp; try rfl)
                    · rintro _ v rfl
                      change purS _ _ (Act.put _ (some 78) _) _ _
                      simp only [Act.put, List.setIfInBounds_toArray, List.set_cons_zero, List.set_cons_succ]
                      refine ⟨⟨_, rfl, fun w' => ?_⟩, ?_⟩
                      · (go_simp; try rfl)
                      · change purS _ _ (Act.put _ (some 71) _) _ _
                        simp only [Act.put, List.setIfInBounds_toArray, List.set_cons_zero, List.set_cons_succ]
                        refine ⟨⟨_, rfl, fun w' => ?_⟩, ?_⟩
                        · (unfold rtRes; go_simp; try rfl)
                        · change purS _ _ (Act.put _ (some 79) _) _ _
                          simp only [Act.put, List.setIfInBounds_toArray, List.set_cons_zero, List.set_cons_succ]
                          refine ⟨⟨_, rfl, fun w' => ?_⟩, trivial⟩
                          (unfold rtRes; go_simp; try rfl)
                  · refine goodG_tail rfl (by intro cs b h; cases h) (doesAlloc rfl (fun w' => ?_)) rfl ?_
                    · (go_simp; try rfl)
                    · intro _ _ _; trivial
                · show Sat w wr.drew (sep emp (sep emp (sep (blk SB (.cells #[.int .i64 s.n, .int .i64 s.d] 44 (0, 0))) (sep (osl 46 3 (some ⟨ob, 0, none⟩) on oc (ownC own)) (sep (kn J3) (osl 3 1 (some ⟨b, 0, none⟩) n fc (ys.map PA.iv)))))))
                  rw [emp_sep, emp_sep]
                  exact HD.out
                · intro dn1 h1 dn2 h2 w7 h7
                  obtain ⟨v6, y6, rfl, hv6, h8⟩ := tailA_done h1 (fun _ => rfl) h7.p1
                  obtain ⟨v10, g, rfl, hg, h9⟩ := tailA_done h2 (fun _ => rfl) h8.p1
                  unfold ptrIs at hg
                  subst hg hv6
                  change wpJ _ _ _ _ _ _ (((((Act.put _ (some 78) (rtRes rr)).put (some 71) (rtRes rr)).put (some 79) (.agg #[.int .i64 rr.1.n, .int .i64 rr.1.d])).put (some 80) (.int .i64 rr.2)).put (some 16) (.pointer (some ⟨g, 0, none⟩))) _
                  simp only [Act.put, List.setIfInBounds_toArray, List.set_cons_zero, List.set_cons_succ]
                  obtain ⟨⟨rn, rd⟩, re⟩ := rr
                  simp only [rtRes]
                  have h9b : Sat w w7 (sep (blk g (.cells #[.int .i64 0, .int .i64 0] 44 (0, 0))) (sep (blk SB (.cells #[.int .i64 s.n, .int .i64 s.d] 44 (0, 0))) (sep (osl 46 3 (some ⟨ob, 0, none⟩) on oc (ownC own)) (sep (kn J3) (osl 3 1 (some ⟨b, 0, none⟩) n fc (ys.map PA.iv)))))) := by
                    have h10 := h9
                    rw [emp_sep] at h10
                    exact h10
                  obtain ⟨k0, k1, k2, k3⟩ := rt2 h9b
                  have h10 := rt2_set h9b (.int .i64 rn) (.int .i64 rd)
                  obtain ⟨w8, hw8⟩ : ∃ w8, w8 = (w7.setCell ⟨g, 0, none⟩ (.int .i64 rn)).setCell ⟨g, 1, none⟩ (.int .i64 rd) := ⟨_, rfl⟩
                  rw [← hw8] at h10
                  have HW8 := Lib.hid hw8
                  have H10 := Lib.hid h10
                  clear h1 h2 h7 h8 h9 h9b hw8 h10 HD hS0
                  (repeat ((first | (refine J_p (v := ?_) rfl rfl (fun w' => ?_) ?_; rotate_left; (go_simp; with_reducible rfl)) | (refine J_s (v := ?_) rfl rfl hS0 (fun w' hS => ?_) ?_; rotate_left; ((try dsimp only at hS); go_simp; with_reducible rfl)) | (refine J_t (v := ?_) rfl rfl ?_ ?_; rotate_left; (go_simp; with_reducible rfl)) | (refine J_po rfl rfl ?_) | (refine J_so rfl rfl hS0 ?_) | (refine J_to rfl rfl ?_)); simp only [Act.put, List.setIfInBounds_toArray, List.set_cons_zero, List.set_cons_succ]))
                  (refine J_e rfl rfl (fun K hK => ?_); go_simp)
                  rw [← HW8.out]
                  (refine hK _ _ (fun h => by cases h) ?_; clear hK K; (try simp only [Act.put, List.setIfInBounds_toArray, List.set_cons_zero, List.set_cons_succ]))
                  (repeat ((first | (refine J_p (v := ?_) rfl rfl (fun w' => ?_) ?_; rotate_left; (go_simp; with_reducible rfl)) | (refine J_s (v := ?_) rfl rfl hS0 (fun w' hS => ?_) ?_; rotate_left; ((try dsimp only at hS); go_simp; with_reducible rfl)) | (refine J_t (v := ?_) rfl rfl ?_ ?_; rotate_left; (go_simp; with_reducible rfl)) | (refine J_po rfl rfl ?_) | (refine J_so rfl rfl hS0 ?_) | (refine J_to rfl rfl ?_)); simp only [Act.put, List.setIfInBounds_toArray, List.set_cons_zero, List.set_cons_succ]))
                  refine J_nil ?_
                  clear k0 k1 k2 k3 HW8
                  have hre' : re = 0 ∨ re = 5 := hre
                  clear hre
                  have hd10 := H10.out.drew
                  obtain ⟨wv, hwv⟩ : ∃ z, z = w8.drew := ⟨_, rfl⟩
                  rw [← hwv] at hd10
                  have HWV := Lib.hid hwv
                  have HD10 := Lib.hid hd10
                  clear hwv hd10
                  have hc8 := HC.out wv _ HD10.out
                  obtain ⟨-, c1, c2, c3⟩ := hc8
                  rcases hre' with rfl | rfl
                  · have hn1 : decide (r.n < 1) = false := decide_eq_false (by have : 0 < r.n := HR.out.2.2.2; omega)
                    by_cases hj0 : j = 0
                    · have hjz0 : decide (0 < j) = false := decide_eq_false (by omega)
                      clear hj0
                      go_upto_region 19 with (fail)
                      refine wp_region_canon rfl (fun _ => True) [(0, .p), (1, .p), (2, .p), (3, .p), (4, .p), (5, .p), (6, .p), (7, .p), (8, .t), (9, .p), (10, .p), (11, .p), (12, .p), (13, .p), (14, .p), (15, .p), (16, .p), (17, .p), (18, .p), (19, .t), (20, .p), (21, .p), (22, .p), (23, .p), (24, .p), (25, .t), (26, .p), (27, .p), (28, .p)] (by kernel_rfl) ?_
                      rw [← HWV.out]
                      have hS0 : True := trivial
                      (repeat ((first | (refine C_p (v := ?_) rfl rfl (fun w' => ?_) ?_; rotate_left; (go_simp; with_reducible rfl)) | (refine C_s (v := ?_) rfl rfl hS0 (fun w' hS => ?_) ?_; rotate_left; ((try dsimp only at hS); go_simp; with_reducible rfl)) | (refine C_t (v := ?_) rfl rfl ?_ ?_; rotate_left; (go_simp; with_reducible rfl)) | (refine C_po rfl rfl ?_) | (refine C_so rfl rfl hS0 ?_) | (refine C_to rfl rfl ?_)); simp only [Act.put, List.setIfInBounds_toArray, List.set_cons_zero, List.set_cons_succ]))
                      refine C_nil ?_
                      clear c1 c2 c3 hn1 hjz0
                      obtain ⟨k0, k1, -, -⟩ := rt2 HD10.out
                      obtain ⟨m0, m1, m2, m3⟩ := rt2 (HD10.out.p1)
                      have h12 := rt2_set HD10.out.p1 (.int .i64 rn) (.int .i64 rd)
                      have H12 := Lib.hid h12
                      clear h12
                      go_wp2
                      go_roundw
                      case rel =>
                        obtain ⟨hrr, hor, hr⟩ := HR.out
                        refine ⟨j + 1, ⟨rn, rd⟩, by go_num, by have := HJ.out.1; omega, Lib.hid ⟨(addR_valid hrr.symm).1, ?_⟩, ?_⟩
                        · rw [addR_val hrr.symm, hs.out.2, List.take_add_one, hor]
                          show sumO (own.take j) + valR r = sumO (own.take j ++ [(pj, r)])
                          rw [sumO_snoc]
                        · have h9 := H12.out.p1.forget
                          exact h9
                      case measure => simp [intOf]; have := HJ.out.1; omega
                    · have hjz0 : decide (0 < j) = true := decide_eq_true (by omega)
                      obtain ⟨j0, hj1⟩ : ∃ j0, j = j0 + 1 := ⟨j - 1, by omega⟩
                      have hj0o : j0 < own.length := by have := HO.out.2.2; have := HJ.out.1; omega
                      obtain ⟨⟨pq, rq⟩, hoq⟩ : ∃ o, own[j0]? = some o := ⟨_, List.getElem?_eq_getElem hj0o⟩
                      have hlt : pq < pj := by
                        obtain ⟨q1, q2⟩ := List.getElem?_eq_some_iff.1 hoq
                        obtain ⟨q3, q4⟩ := List.getElem?_eq_some_iff.1 HR.out.2.1
                        have := List.pairwise_iff_getElem.1 HSUM.out.2.2 j0 j q1 q3 (by omega)
                        rw [q2, q4] at this
                        exact this
                      have hle1 : decide (pj ≤ pq) = false := decide_eq_false (by omega)
                      have c4 := (own_cell (HD10.out.p2) hoq).1
                      have hjw : IntKind.i64.wrap ((j : Int) - 1) = (j0 : Int) := by
                        have : (j : Int) - 1 = (j0 : Int) := by omega
                        rw [this]; exact IntWalk.i64_in _ (by omega)
                      have hj0n : (j0 : Int) < (on : Int) := by omega
                      clear hj0 hj1 hj0o hoq hlt
                      go_upto_region 19 with (fail)
                      refine wp_region_canon rfl (fun _ => True) [(0, .p), (1, .p), (2, .p), (3, .p), (4, .p), (5, .p), (6, .p), (7, .p), (8, .t), (9, .p), (10, .p), (11, .p), (12, .p), (13, .p), (14, .p), (15, .p), (16, .p), (17, .p), (18, .p), (19, .t), (20, .p), (21, .p), (22, .p), (23, .p), (24, .p), (25, .t), (26, .p), (27, .p), (28, .p)] (by kernel_rfl) ?_
                      rw [← HWV.out]
                      have hS0 : True := trivial
                      (repeat ((first | (refine C_p (v := ?_) rfl rfl (fun w' => ?_) ?_; rotate_left; (go_simp; with_reducible rfl)) | (refine C_s (v := ?_) rfl rfl hS0 (fun w' hS => ?_) ?_; rotate_left; ((try dsimp only at hS); go_simp; with_reducible rfl)) | (refine C_t (v := ?_) rfl rfl ?_ ?_; rotate_left; (go_simp; with_reducible rfl)) | (refine C_po rfl rfl ?_) | (refine C_so rfl rfl hS0 ?_) | (refine C_to rfl rfl ?_)); simp only [Act.put, List.setIfInBounds_toArray, List.set_cons_zero, List.set_cons_succ]))
                      refine C_nil ?_
                      clear c1 c2 c3 c4 hn1 hjz0 hle1 hjw hj0n
                      obtain ⟨k0, k1, -, -⟩ := rt2 HD10.out
                      obtain ⟨m0, m1, m2, m3⟩ := rt2 (HD10.out.p1)
                      have h12 := rt2_set HD10.out.p1 (.int .i64 rn) (.int .i64 rd)
                      have H12 := Lib.hid h12
                      clear h12
                      go_wp2
                      go_roundw
                      case rel =>
                        obtain ⟨hrr, hor, hr⟩ := HR.out
                        refine ⟨j + 1, ⟨rn, rd⟩, by go_num, by have := HJ.out.1; omega, Lib.hid ⟨(addR_valid hrr.symm).1, ?_⟩, ?_⟩
                        · rw [addR_val hrr.symm, hs.out.2, List.take_add_one, hor]
                          show sumO (own.take j) + valR r = sumO (own.take j ++ [(pj, r)])
                          rw [sumO_snoc]
                        · have h9 := H12.out.p1.forget
                          exact h9
                      case measure => simp [intOf]; have := HJ.out.1; omega
                  · have HLV := Lib.hid (lives25_spec HD10.out)
                    go_upto_region 19 with (fail)
                    refine wp_region_canon rfl (fun _ => True) [(0, .p), (1, .p), (2, .p), (3, .p), (4, .p), (5, .p), (6, .p), (7, .p), (8, .t), (9, .p), (10, .p), (11, .p), (12, .p), (13, .p), (14, .p), (15, .p), (16, .p), (17, .p), (18, .p), (19, .t), (20, .p), (21, .p), (22, .p), (23, .p), (24, .p), (25, .t), (26, .p), (27, .p), (28, .p)] (by kernel_rfl) ?_
                    rw [← HWV.out]
                    have hS0 : True := trivial
                    (repeat ((first | (refine C_p (v := ?_) rfl rfl (fun w' => ?_) ?_; rotate_left; (go_simp; with_reducible rfl)) | (refine C_s (v := ?_) rfl rfl hS0 (fun w' hS => ?_) ?_; rotate_left; ((try dsimp only at hS); go_simp; with_reducible rfl)) | (refine C_t (v := ?_) rfl rfl ?_ ?_; rotate_left; (go_simp; with_reducible rfl)) | (refine C_po rfl rfl ?_) | (refine C_so rfl rfl hS0 ?_) | (refine C_to rfl rfl ?_)); simp only [Act.put, List.setIfInBounds_toArray, List.set_cons_zero, List.set_cons_succ]))
                    refine C_nil ?_
                    clear c1 c2 c3
                    go_wp2_with fail
                    refine HLV.out.mono ?_
                    rintro e w9 ⟨rfl, h9⟩
                    have H9 := Lib.hid h9.below
                    clear h9 HLV
                    go_wp2
                    go_ret
                    exact ⟨rfl, H9.out⟩
              · have hjz : ¬ (j : Int) < (on : Int) := by omega
                have hj : j = on := by omega
                have hs1 : s = ⟨1, 1⟩ := valR_one hs.out.1 (by rw [hs.out.2, hj, HO.out.2.2, List.take_length]; exact HSUM.out.1)
                subst hs1
                have hq : ∀ w0, (binOp .neq 44 (.agg #[.int .i64 1, .int .i64 1]) (.agg #[.int .i64 1, .int .i64 1])).run Tryz.prog w0 = .ok (.bool false) w0 := fun w0 => by
                  rw [rt_neq]; simp
                obtain ⟨j1, j2, -, -⟩ := rt2 hS6
                have HS6 := Lib.hid hS6.forget.forget_osl
                clear hj hjl hjn hS6
                go_wp2
                go_roundw
                case rel => exact ⟨k + 1, J3, by go_num, by have := HK.out; omega, Mem.le_trans HK.out.2.1 HO.out.2.1, by have h9 := HS6.out; rw [sep_emp]; rw [sep_comm]; exact h9⟩
                case measure => simp [intOf]; have := HK.out; omega
          · go_wp2
            go_roundw
            case rel => exact ⟨k + 1, J3, by go_num, by have := HK.out; omega, Mem.le_trans HK.out.2.1 HO.out.2.1, by have h9 := H5.out.forget_osl; simpa only [sep_comm, sep_lcomm, sep_assoc] using h9.p1⟩
            case measure => simp [intOf]; have := HK.out; omega
        · have hkz : ¬ (k : Int) < (n : Int) := by omega
          have HK := Lib.hid (And.intro hkn hle2)
          have HS2 := Lib.hid hS2
          clear hkn hle2 hkl hS2
          go_wp2
          go_roundw
          case rel => exact ⟨i + 1, J2, by go_num, by have := HLE.out; omega, Mem.le_trans HLE.out.1 HK.out.2, HS2.out.forget_osl⟩
          case measure => simp [intOf]; have := HLE.out; omega
    · have hltz : ¬ (i : Int) < 3 := by omega
      have HLV := Lib.hid (lives25_spec hS1)
      clear hlt hi3
      go_wp2_with fail
      refine HLV.out.mono ?_
      rintro e w3 ⟨rfl, h3⟩
      go_wp2
      go_ret
      exact ⟨rfl, h3.below⟩
end Go.Proofs.YtfapiopnjllnnaaGreatDoor
