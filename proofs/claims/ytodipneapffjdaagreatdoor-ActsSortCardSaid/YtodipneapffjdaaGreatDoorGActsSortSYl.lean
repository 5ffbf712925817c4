/- The reference's Sort of acts: the walk. -/
import Derived.Test.YtodipneapffjdaaGreatDoorGActsSortSYk
import Derived.Test.YtodipneapffjdaaGreatDoorGActsSortSGi
namespace Go.Proofs.YtodipneapffjdaaGreatDoor
open Go.RowKit PA
theorem acts_atY {J : Mem} {a : Option Addr} {xs : List Ac} (hc : cellsAt a (acs xs) J) (hne : xs ≠ []) : ∃ b o, a = some ⟨b, o, none⟩ ∧ ∀ w', Ext J w' → ∀ (i : Nat) (hi : i < xs.length), Sem.run Tryz.prog (ldAct (.pointer (some ⟨b, o + i * 19, none⟩))) w' = .ok (.agg xs[i].cells.toArray) w' := by
  have hne2 : acs xs ≠ [] := fun e => by
    have h1 := congrArg List.length e
    rw [acs_len, List.length_nil] at h1
    exact hne (List.eq_nil_of_length_eq_zero (by omega))
  obtain ⟨b, o, rfl, hcell⟩ := cells_ext hc hne2
  refine ⟨b, o, rfl, fun w' he i hi => run_ldAct_at fun j v hj => ?_⟩
  have hjl : j < 19 := (List.getElem?_eq_some_iff.1 hj).1
  have h2 := hcell w' he (i * 19 + j) v (by rw [acs_at xs i hi j hjl]; exact hj)
  rwa [show o + i * 19 + j = o + (i * 19 + j) by omega]
theorem add_addY (a : Addr) (m n : Nat) : (a.add m).add n = a.add (m + n) := by
  by_cases h1 : m = 0 <;> by_cases h2 : n = 0 <;> simp [Addr.add, h1, h2, Nat.add_assoc]
attribute [local go_sem ↓] storeAt_act loadAt_act sizeAct slice_act buildSlice_ac
set_option maxRecDepth 100000 in
set_option maxHeartbeats 16000000 in
theorem sort18_spec {W w : World} {A : Assn} {I : Mem} (a : Option Addr) (n c : Nat) (Ls : List (Ac × Pa)) (hn : n = Ls.length) (hn2 : n ≤ 65536) (hc : cellsAt a (acs (Ls.map (·.1))) I) (hA : ∀ p ∈ Ls, IsA I p.1 p.2 ∧ SzA p.2 ∧ EncOK p.2) (h : Sat W w (sep (kn I) A)) :
    Calls Tryz.prog 8 #[.slice a n c] w fun e w' => ∃ (b : Option Addr) (d : Nat) (J : Mem), e = .returned (.slice b n d) ∧ Mem.le I J ∧ Swf b n d ∧ cellsAt b (acs ((sortP cP Ls).map (·.1))) J ∧ Sat W w' (sep (kn J) A) := by
  have HN := Lib.hid hn
  have HA := Lib.hid hA
  have HC := Lib.hid hc
  have H := Lib.hid h
  have n63 : (n : Int) ≤ 65536 := by omega
  obtain ⟨Po, hPo⟩ : ∃ P : Ending → World → Prop, P = fun e w' => ∃ (b : Option Addr) (d : Nat) (J : Mem), e = .returned (.slice b n d) ∧ Mem.le I J ∧ Swf b n d ∧ cellsAt b (acs ((sortP cP Ls).map (·.1))) J ∧ Sat W w' (sep (kn J) A) := ⟨_, rfl⟩
  rw [← hPo]
  have HPO := Lib.hid hPo
  have CMP : Hid (∀ p ∈ Ls, ∀ q ∈ Ls, ∀ w' A' J, Mem.le I J → Sat W w' (sep (kn J) A') → Calls Tryz.prog 18 #[.agg p.1.cells.toArray, .agg q.1.cells.toArray] w' fun e w'' => ∃ J2, e = .returned (.int .i64 (cP p q)) ∧ Mem.le J J2 ∧ Sat W w'' (sep (kn J2) A')) := Lib.hid fun p hp q hq w' A' J hl h' =>
    compare18_spec p.1 q.1 p.2 q.2 ((hA p hp).1.mono hl) (hA p hp).2.1 (hA p hp).2.2 ((hA q hq).1.mono hl) (hA q hq).2.1 (hA q hq).2.2 h'
  clear hn hn2 hc hA h hPo
  go_enter Tryz.func8, Tryz.ntmps8
  go_wp2_with fail
  go_loopw [3, 4] (fun ov kv wr => ∃ (i : Nat) (a' : Option Addr) (c' : Nat) (vs : List Value) (J : Mem), ov = .slice a' i c' ∧ kv = .int .i64 i ∧ i ≤ n ∧ Hid (Mem.le I J ∧ vs = acs ((sortTo cP Ls i).map (·.1))) ∧ Sat W wr (sep (osl 37 19 a' i c' vs) (sep (kn J) A))) (fun _ kv _ => n - (intOf kv).toNat)
  case atStart => exact ⟨0, none, 0, [], I, rfl, rfl, by omega, Lib.hid ⟨Mem.le_refl I, rfl⟩, H.out.osl_nil _ _⟩
  case round =>
    obtain ⟨i, a', c', vs, J, rfl, rfl, hi, HJ, hS⟩ := hrel
    clear H
    by_cases hlt : i < n
    · have hltz : (i : Int) < (n : Int) := by omega
      obtain ⟨p, hp⟩ : ∃ p, Ls[i]? = some p := ⟨_, List.getElem?_eq_getElem (by have := HN.out; omega)⟩
      have hpm : p ∈ Ls := List.mem_of_getElem? hp
      obtain ⟨os, hos⟩ : ∃ os, os = sortTo cP Ls i := ⟨_, rfl⟩
      have hperm : os.Perm (Ls.take i) := by rw [hos]; exact sortTo_perm cP Ls i (by have := HN.out; omega)
      have hol : os.length = i := by rw [hperm.length_eq, List.length_take, ← HN.out]; omega
      have hom : ∀ q ∈ os, q ∈ Ls := fun q hq => List.mem_of_mem_take (hperm.mem_iff.1 hq)
      have hnx : sortTo cP Ls (i + 1) = insP cP p os := by rw [sortTo_succ cP hp, hos]
      have hvs : vs = acs (os.map (·.1)) := by rw [hos]; exact HJ.out.2
      obtain ⟨b, o, rfl, hld⟩ := acts_atY HC.out (fun e => by
        have h1 := congrArg List.length e
        rw [List.length_map, List.length_nil, ← HN.out] at h1; omega)
      have hld' : ∀ w', Ext I w' → Sem.run Tryz.prog (ldAct (.pointer (some ⟨b, o + i * 19, none⟩))) w' = .ok (.agg p.1.cells.toArray) w' := fun w' he => by
        have hil : i < (Ls.map (·.1)).length := by rw [List.length_map, ← HN.out]; exact hlt
        have h1 := hld w' he i hil
        have e : (Ls.map (·.1))[i] = p.1 := by rw [List.getElem_map, (List.getElem?_eq_some_iff.1 hp).2]
        rwa [e] at h1
      have HLD := Lib.hid hld'
      have HOS := Lib.hid (And.intro hol (And.intro hom (And.intro hnx hvs)))
      have HP := Lib.hid hpm
      have hle := HJ.out.1
      have HLE := Lib.hid hle
      have HLT := Lib.hid hlt
      have HS := Lib.hid hS
      clear hp hpm hos hperm hol hom hnx hvs hld hld' hle hlt hi hS HJ
      go_upto_block 2 with (fail)
      go_cut [5] from 15 to 31 (fun kv wx => ∃ (k : Nat) (J2 : Mem), kv = .int .i64 k ∧ Hid (k ≤ i ∧ posP cP p os i = k ∧ Mem.le J J2) ∧ Sat W wx (sep (osl 37 19 a' i c' vs) (sep (kn J2) A)))
      case first =>
        as_aux_lemma =>
        /-DEV1-/
        go_wp2_with fail
        go_loopw [5] (fun kv wr => ∃ (k : Nat) (J2 : Mem), kv = .int .i64 k ∧ k ≤ i ∧ Hid (posP cP p os i = posP cP p os k ∧ Mem.le J J2) ∧ Sat W wr (sep (osl 37 19 a' i c' vs) (sep (kn J2) A))) (fun kv _ => (intOf kv).toNat)
        case atStart => exact ⟨i, J, rfl, by omega, Lib.hid ⟨rfl, Mem.le_refl J⟩, HS.out⟩
        case round =>
          obtain ⟨k, J2, rfl, hk, HK, hS⟩ := hrel
          clear HS
          have hld := HLD.out wr.drew (ext_le (Mem.le_trans HLE.out HK.out.2) hS.drew.p1.ext)
          cases k with
          | zero =>
            have HD := Lib.hid hS.drew
            have hz : decide ((0 : Int) < ((0 : Nat) : Int)) = false := rfl
            clear hS
            go_upto_region 6 with (fail)
            refine wp_region_canon rfl (fun _ => True) [(0, .p), (1, .p), (2, .p), (3, .p), (4, .p), (5, .p), (6, .t), (7, .p), (8, .p), (9, .p), (10, .p), (11, .t), (12, .e false), (13, .p), (14, .p)] (by kernel_rfl) ?_
            have hS0 : True := trivial
            (repeat ((first | (refine C_p (v := ?_) rfl rfl (fun w' => ?_) ?_; rotate_left; (go_simp; with_reducible rfl)) | (refine C_s (v := ?_) rfl rfl hS0 (fun w' hS => ?_) ?_; rotate_left; ((try dsimp only at hS); go_simp; with_reducible rfl)) | (refine C_t (v := ?_) rfl rfl ?_ ?_; rotate_left; (go_simp; with_reducible rfl)) | (refine C_po rfl rfl ?_) | (refine C_so rfl rfl hS0 ?_) | (refine C_to rfl rfl ?_)); simp only [Act.put, List.setIfInBounds_toArray, List.set_cons_zero, List.set_cons_succ]))
            (refine C_eo rfl rfl (fun h => by first | (cases h; done) | exact hS0) ?_; simp only [Act.put, List.setIfInBounds_toArray, List.set_cons_zero, List.set_cons_succ])
            (repeat ((first | (refine C_p (v := ?_) rfl rfl (fun w' => ?_) ?_; rotate_left; (go_simp; with_reducible rfl)) | (refine C_s (v := ?_) rfl rfl hS0 (fun w' hS => ?_) ?_; rotate_left; ((try dsimp only at hS); go_simp; with_reducible rfl)) | (refine C_t (v := ?_) rfl rfl ?_ ?_; rotate_left; (go_simp; with_reducible rfl)) | (refine C_po rfl rfl ?_) | (refine C_so rfl rfl hS0 ?_) | (refine C_to rfl rfl ?_)); simp only [Act.put, List.setIfInBounds_toArray, List.set_cons_zero, List.set_cons_succ]))
            refine C_nil ?_
            go_wp2
            go_meet
            case rel => exact ⟨0, J2, rfl, Lib.hid ⟨by omega, HK.out.1, HK.out.2⟩, HD.out⟩
          | succ k =>
            obtain ⟨m, hm⟩ : ∃ m, m = k + 1 := ⟨_, rfl⟩
            rw [← hm] at hk HK
            simp only [← hm]
            have hkl : k < os.length := by rw [HOS.out.1]; omega
            obtain ⟨q, hq⟩ : ∃ q, os[k]? = some q := ⟨_, List.getElem?_eq_getElem hkl⟩
            have hqm : q ∈ Ls := HOS.out.2.1 q (List.mem_of_getElem? hq)
            have hpos : posP cP p os m = if cP p q < 0 then posP cP p os k else m := by rw [hm, posP, hq]
            have hcmp := CMP.out p HP.out q hqm
            obtain ⟨cm, hcm⟩ : ∃ z, z = cP p q := ⟨_, rfl⟩
            rw [← hcm] at hpos hcmp
            have HCM := Lib.hid hcmp
            have hm0 : (0 : Int) < (m : Int) := by omega
            have hmb : decide (0 < m) = true := decide_eq_true (by omega)
            have HMB := Lib.hid hmb
            have hmw : IntKind.i64.wrap ((m : Int) - 1) = (k : Int) := by rw [show (m : Int) - 1 = (k : Int) by omega]; exact IntWalk.i64_in _ (by omega)
            have hki : (k : Int) < (i : Int) := by omega
            obtain ⟨g, e', -⟩ := hS.osl_at (fun e => by
              have h1 := congrArg List.length e
              rw [HOS.out.2.2.2, acs_len, List.length_map, HOS.out.1, List.length_nil] at h1; omega)
            subst e'
            have hld2 : Sem.run Tryz.prog (ldAct (.pointer (some ⟨g, k * 19, none⟩))) wr.drew = .ok (.agg q.1.cells.toArray) wr.drew := by
              have h1 := hS.drew
              rw [HOS.out.2.2.2] at h1
              have h2 : k < (os.map (·.1)).length := by rw [List.length_map]; exact hkl
              have h3 := run_ldAct_at (osl_act h1 k h2)
              have e : (os.map (·.1))[k] = q.1 := by rw [List.getElem_map, (List.getElem?_eq_some_iff.1 hq).2]
              rwa [e] at h3
            have HD : Hid (Sat W wr.drew (sep (kn J2) (sep (osl 37 19 (some ⟨g, 0, none⟩) i c' vs) A))) := Lib.hid (by have := hS.drew; simpa only [sep_comm, sep_lcomm, sep_assoc] using this)
            have hposh : Hid (posP cP p os m = if cm < 0 then posP cP p os k else m) := Lib.hid hpos
            have HM := Lib.hid hm
            have HKI := Lib.hid hk
            clear hkl hq hqm hpos hcmp hcm hm hm0 hk hS hmb
            go_upto_region 6 with (fail)
            refine wp_region_canon rfl (fun _ => True) [(0, .p), (1, .p), (2, .p), (3, .p), (4, .p), (5, .p), (6, .t), (7, .p), (8, .p), (9, .p), (10, .p), (11, .t), (12, .e false), (13, .p), (14, .p)] (by kernel_rfl) ?_
            have hS0 : True := trivial
            (repeat ((first | (refine C_p (v := ?_) rfl rfl (fun w' => ?_) ?_; rotate_left; (go_simp; with_reducible rfl)) | (refine C_s (v := ?_) rfl rfl hS0 (fun w' hS => ?_) ?_; rotate_left; ((try dsimp only at hS); go_simp; with_reducible rfl)) | (refine C_t (v := ?_) rfl rfl ?_ ?_; rotate_left; (go_simp; with_reducible rfl)) | (refine C_po rfl rfl ?_) | (refine C_so rfl rfl hS0 ?_) | (refine C_to rfl rfl ?_)); simp only [Act.put, List.setIfInBounds_toArray, List.set_cons_zero, List.set_cons_succ]))
            rw [HMB.out]
            (repeat ((first | (refine C_p (v := ?_) rfl rfl (fun w' => ?_) ?_; rotate_left; (go_simp; with_reducible rfl)) | (refine C_s (v := ?_) rfl rfl hS0 (fun w' hS => ?_) ?_; rotate_left; ((try dsimp only at hS); go_simp; with_reducible rfl)) | (refine C_t (v := ?_) rfl rfl ?_ ?_; rotate_left; (go_simp; with_reducible rfl)) | (refine C_po rfl rfl ?_) | (refine C_so rfl rfl hS0 ?_) | (refine C_to rfl rfl ?_)); simp only [Act.put, List.setIfInBounds_toArray, List.set_cons_zero, List.set_cons_succ]))
            (refine C_e rfl rfl (fun K hK => ?_); go_simp)
            refine (HCM.out _ _ J2 (Mem.le_trans HLE.out HK.out.2) HD.out).mono ?_
            rintro e w2 ⟨J3, rfl, hle3, h2⟩
            have HJ3 := Lib.hid hle3
            have H2 : Hid (Sat W w2 (sep (osl 37 19 (some ⟨g, 0, none⟩) i c' vs) (sep (kn J3) A))) := Lib.hid (by simpa only [sep_comm, sep_lcomm, sep_assoc] using h2)
            clear h2 hle3 hld hld2 HD HCM
            (refine hK _ _ (fun h => by cases h) ?_; clear hK K; (try simp only [Act.put, List.setIfInBounds_toArray, List.set_cons_zero, List.set_cons_succ]))
            by_cases hneg : cm < 0
            · have hnb : decide (cm < 0) = true := decide_eq_true hneg
              have HPK : Hid (posP cP p os i = posP cP p os k ∧ Mem.le J J3) := Lib.hid ⟨by rw [HK.out.1, hposh.out, if_pos hneg], Mem.le_trans HK.out.2 HJ3.out⟩
              clear hneg
              (repeat ((first | (refine C_p (v := ?_) rfl rfl (fun w' => ?_) ?_; rotate_left; (go_simp; with_reducible rfl)) | (refine C_s (v := ?_) rfl rfl hS0 (fun w' hS => ?_) ?_; rotate_left; ((try dsimp only at hS); go_simp; with_reducible rfl)) | (refine C_t (v := ?_) rfl rfl ?_ ?_; rotate_left; (go_simp; with_reducible rfl)) | (refine C_po rfl rfl ?_) | (refine C_so rfl rfl hS0 ?_) | (refine C_to rfl rfl ?_)); simp only [Act.put, List.setIfInBounds_toArray, List.set_cons_zero, List.set_cons_succ]))
              refine C_nil ?_
              go_wp2
              go_roundw
              case rel => exact ⟨k, J3, by congr 1, by have := HM.out; have := HKI.out; omega, HPK, H2.out⟩
              case measure => simp [intOf]; have := HM.out; omega
            · have hnb : decide (cm < 0) = false := decide_eq_false hneg
              have HPK : Hid (m ≤ i ∧ posP cP p os i = m ∧ Mem.le J J3) := Lib.hid ⟨HKI.out, by rw [HK.out.1, hposh.out, if_neg hneg], Mem.le_trans HK.out.2 HJ3.out⟩
              clear hneg
              (repeat ((first | (refine C_p (v := ?_) rfl rfl (fun w' => ?_) ?_; rotate_left; (go_simp; with_reducible rfl)) | (refine C_s (v := ?_) rfl rfl hS0 (fun w' hS => ?_) ?_; rotate_left; ((try dsimp only at hS); go_simp; with_reducible rfl)) | (refine C_t (v := ?_) rfl rfl ?_ ?_; rotate_left; (go_simp; with_reducible rfl)) | (refine C_po rfl rfl ?_) | (refine C_so rfl rfl hS0 ?_) | (refine C_to rfl rfl ?_)); simp only [Act.put, List.setIfInBounds_toArray, List.set_cons_zero, List.set_cons_succ]))
              refine C_nil ?_
              go_wp2
              go_meet
              case rel => exact ⟨m, J3, rfl, HPK, H2.out⟩
        /-VED1-/
      obtain ⟨k, J2, rfl, HK, hS⟩ := hcut
      have hki := HK.out.1
      have hic : i ≤ c' ∧ (c' : Int) ≤ 9223372036854775807 := by
        have h1 := hS.osl_len
        exact ⟨h1.2.1, by have := h1.2.2; unfold maxLen at this; omega⟩
      have hpre := slice_preA a' i c' k (by omega)
      obtain ⟨asuf, hsuf, hsa⟩ := slice_sufA a' i c' k hki
      have hvsp : vs = acs ((os.map (·.1)).take k) ++ acs ((os.map (·.1)).drop k) := by rw [HOS.out.2.2.2]; exact acs_take _ _
      have hld := HLD.out wc.drew (ext_le (Mem.le_trans HLE.out HK.out.2.2) hS.drew.p1.ext)
      obtain ⟨X, hX⟩ : ∃ X, X = sep (osl 37 19 a' i c' vs) (sep (kn J2) A) := ⟨_, rfl⟩
      have HXE : Hid (∀ w', Sat W w' X → Sem.run Tryz.prog (ldAct (.pointer (some ⟨b, o + i * 19, none⟩))) w' = .ok (.agg p.1.cells.toArray) w') := Lib.hid fun w' h' => by
        rw [hX] at h'
        exact HLD.out w' (ext_le (Mem.le_trans HLE.out HK.out.2.2) h'.p1.ext)
      have HXS : Hid (∀ w', Sat W w' X → ∀ b, a' = some b → ∀ (j : Nat) (u : Value), vs[j]? = some u → w'.cell? (b.add j) = some u) := Lib.hid fun w' h' b hb j u hu => by
        rw [hX, hb] at h'
        exact h'.osl_settle.rsl_src j u hu
      have hT0 : Sat W wc.drew (insT 37 k (acs ((os.map (·.1)).take k)) p.1.cells X (fun _ => none)) := by
        rw [insT_none rfl, ins4_none rfl, ins9_none rfl, emp_sep, emp_sep, hX]; exact hS.drew
      have HT0 := Lib.hid hT0
      have HX := Lib.hid hX
      have HSUF : Hid (∀ w', Sat W w' X → ∀ b, asuf = some b → ∀ (j : Nat) (u : Value), (acs ((os.map (·.1)).drop k))[j]? = some u → w'.cell? (b.add j) = some u) := Lib.hid fun w' h' b hb j u hu => by
        by_cases e : c' = k
        · rw [List.drop_eq_nil_of_le (by rw [List.length_map, HOS.out.1]; omega)] at hu
          simp [acs] at hu
        · rw [hsa e] at hb
          cases ha : a' with
          | none => rw [ha] at hb; cases hb
          | some b0 =>
            rw [ha] at hb
            cases hb
            rw [add_addY]
            exact HXS.out w' h' b0 ha _ u (by rw [HOS.out.2.2.2]; exact acs_suf (by rw [List.length_map, HOS.out.1]; omega) hu)
      have HSN : Hid (asuf = none → i - k = 0) := Lib.hid fun e => by
        by_cases e2 : c' = k
        · omega
        · rw [hsa e2] at e
          have h0 : a' = none := by cases ha : a' with
            | none => rfl
            | some b0 => rw [ha] at e; cases e
          rcases hS.osl_cases with ⟨-, h1, -⟩ | ⟨g, cur, h1, -⟩
          · omega
          · rw [h1] at h0; cases h0
      have HINS : Hid (acs ((os.map (·.1)).take k) ++ p.1.cells ++ acs ((os.map (·.1)).drop k) = acs ((sortTo cP Ls (i + 1)).map (·.1))) := Lib.hid (by
        rw [HOS.out.2.2.1]; unfold insP
        rw [HOS.out.1, HK.out.2.1, List.map_append, List.map_cons, List.map_take, List.map_drop, acs_append, List.append_assoc]; rfl)
      have HNIL : Hid (a' = none → i = 0) := Lib.hid fun e => by
        rcases hS.osl_cases with ⟨-, h1, -⟩ | ⟨g, cur, h1, -⟩
        · exact h1
        · rw [h1] at e; cases e
      have hltz' := hltz
      have HKI := Lib.hid (And.intro hki hic)
      have hkz : (k : Int) ≤ (i : Int) := by omega
      clear hki hic hsa hvsp hX hT0 hS
      go_upto_region 9 with (fail)
      go_cut [6] from 32 to 42 (fun v wx => ∃ (a2 : Option Addr) (c2 : Nat), v = .slice a2 (k + 1) c2 ∧ Sat W wx (sep (osl 37 19 a2 (k + 1) c2 (acs ((os.map (·.1)).take k) ++ p.1.cells)) X))
      case first =>
        as_aux_lemma =>
        /-DEV2-/
        have hS0 := hld
        clear hld hsuf
        refine wp_region_itemsJW rfl (fun w' => Sem.run Tryz.prog (ldAct (.pointer (some ⟨b, o + i * 19, none⟩))) w' = .ok (.agg p.1.cells.toArray) w') [.one 0 .p, .one 1 .p, .one 2 .p, .one 3 .p, .one 5 .p, .one 6 .p, .one 7 .p, .one 8 .s, .grp true [(4, []), (9, []), (10, [])], .one 11 .p] (by kernel_rfl) ?_
        (repeat ((first | (refine J_p (v := ?_) rfl rfl (fun w' => ?_) ?_; rotate_left; (go_simp; with_reducible rfl)) | (refine J_s (v := ?_) rfl rfl hS0 (fun w' hS => ?_) ?_; rotate_left; ((try dsimp only at hS); go_simp; with_reducible rfl)) | (refine J_t (v := ?_) rfl rfl ?_ ?_; rotate_left; (go_simp; with_reducible rfl)) | (refine J_po rfl rfl ?_) | (refine J_so rfl rfl hS0 ?_) | (refine J_to rfl rfl ?_)); simp only [Act.put, List.setIfInBounds_toArray, List.set_cons_zero, List.set_cons_succ]))
        refine J_grp (n := 3) rfl ?_
        clear hS0
        refine wpGrpG_dag [4, 9, 10] insD (insT 37 k (acs ((os.map (·.1)).take k)) p.1.cells X) (by kernel_rfl) (by kernel_rfl) ?_ ?_ ?_ 3 [4, 9, 10] (fun _ => none) wc.drew rfl (by decide) (fun z => by simp) (fun _ _ h => by cases h) HT0.out
        · intro _ f w' hT
          exact HXE.out w' (insT_X hT)
        · intro y hy f w' o' ho hfy hdep hcl hT
          simp only [List.mem_cons, List.not_mem_nil, or_false] at hy
          rcases hy with rfl | rfl | rfl
          · as_aux_lemma =>
            cases ho
            have h10 : f 10 = none := by
              cases h10 : f 10 with
              | none => rfl
              | some v => have := hcl 10 (by decide) (by rw [h10]; rfl) 4 (by decide); rw [hfy] at this; cases this
            have hX' := insT_X hT
            rw [insT_none h10, ins4_none hfy, emp_sep] at hT
            refine (does_append (.tmp 32) (.tmp 35) 23 rfl 37 19 248 _ Tryz.underlying23 infoAct rfl (by simp [putF, List.filter, insD, Act.put, Act.eval]) (hT.osl_nil 37 19) (x := a') (m := k) (cc := c') (by simp [putF, List.filter, insD, Act.put, Act.eval]) (acs ((os.map (·.1)).take k)) (by rw [acs_len, List.length_take, List.length_map, HOS.out.1]; have := HKI.out.1; omega) (fun e => by have := HNIL.out e; have := HKI.out.1; omega) (fun b' hb j u hu => HXS.out w' hX' b' hb j u (by rw [HOS.out.2.2.2]; exact acs_pre hu)) (acs_one _) (by have := HKI.out; omega) (by have := HKI.out; unfold maxLen; omega)).mono ?_
            rintro v w'' ⟨a3, c3, rfl, h3⟩
            rw [insT_none (by rw [setF_ne (by decide)]; exact h10), ins4_some setF_eq, ins9_set (by decide)]
            refine ⟨a3, c3, by rw [Nat.zero_add], ?_⟩
            rw [Nat.zero_add, List.nil_append] at h3
            exact h3
          · as_aux_lemma =>
            cases ho
            have h10 : f 10 = none := by
              cases h10 : f 10 with
              | none => rfl
              | some v => have := hcl 10 (by decide) (by rw [h10]; rfl) 9 (by decide); rw [hfy] at this; cases this
            rw [insT_none h10, ins9_none hfy, emp_sep] at hT
            have hbs := bs_ac p.1 w'
            refine .inl ⟨.slice (some ⟨w'.heap.size, 0, none⟩) 1 1, w'.alloc (.cells p.1.cells.toArray 37), ?_, ?_⟩
            · simp [putF, List.filter, insD, Act.put]
              (go_simp; try rfl)
            · show Sat W (w'.alloc (.cells p.1.cells.toArray 37)) (insT 37 k (acs ((os.map (·.1)).take k)) p.1.cells X (setF f 9 (.slice (some ⟨w'.heap.size, 0, none⟩) 1 1)))
              rw [insT_none (by rw [setF_ne (by decide)]; exact h10), ins4_set (by decide)]
              have h3 := hT.alloc (.cells p.1.cells.toArray 37)
              have h4 : Sat W (w'.alloc (.cells p.1.cells.toArray 37)) (sep (ins9 37 p.1.cells (setF f 9 (.slice (some ⟨w'.heap.size, 0, none⟩) 1 1))) (sep (ins4 37 k (acs ((os.map (·.1)).take k)) f) X)) := (ins9_some setF_eq).2 ⟨_, rfl, h3⟩
              simpa only [sep_comm, sep_lcomm, sep_assoc] using h4
          · as_aux_lemma =>
            cases ho
            obtain ⟨v4, hv4⟩ := Option.isSome_iff_exists.1 (hdep 4 (by decide))
            obtain ⟨v9, hv9⟩ := Option.isSome_iff_exists.1 (hdep 9 (by decide))
            rw [insT_none hfy] at hT
            obtain ⟨a3, c3, rfl, h3⟩ := (ins4_some hv4).1 hT
            have h4 : Sat W w' (sep (ins9 37 p.1.cells f) (sep (osl 37 19 a3 k c3 (acs ((os.map (·.1)).take k))) X)) := by simpa only [sep_comm, sep_lcomm, sep_assoc] using h3
            obtain ⟨g, rfl, h5⟩ := (ins9_some hv9).1 h4
            have h6 : Sat W w' (sep (osl 37 19 a3 k c3 (acs ((os.map (·.1)).take k))) (sep (blk g (.cells p.1.cells.toArray 37 (0, 0))) X)) := by simpa only [sep_comm, sep_lcomm, sep_assoc] using h5
            refine (does_append (.tmp 36) (.tmp 41) 23 rfl 37 19 248 _ Tryz.underlying23 infoAct rfl (by simp [putF, List.filter, insD, hv4, hv9, dstOf, Act.put, Act.eval]) h6 (x := some ⟨g, 0, none⟩) (m := 1) (cc := 1) (by simp [putF, List.filter, insD, hv4, hv9, dstOf, Act.put, Act.eval]) p.1.cells rfl (fun e => by cases e) (fun b' hb j u hu => by
              cases hb
              have e : (⟨g, 0, none⟩ : Addr).add j = ⟨g, j, none⟩ := by unfold Addr.add; split <;> simp_all
              rw [e]; exact (act_fr h5 j u hu).1) p.1.one (by have := HKI.out; omega) (by have := HKI.out; unfold maxLen; omega)).mono ?_
            rintro v w'' ⟨a7, c7, rfl, h7⟩
            rw [insT_some setF_eq]
            refine ⟨a7, c7, rfl, ?_⟩
            have h8 : Sat W w'' (sep (blk g (.cells p.1.cells.toArray 37 (0, 0))) (sep (osl 37 19 a7 (k + 1) c7 (acs ((os.map (·.1)).take k) ++ p.1.cells)) X)) := by simpa only [sep_comm, sep_lcomm, sep_assoc] using h7
            exact h8.drop
        · as_aux_lemma =>
          intro f w' hall hT
          obtain ⟨v4, hv4⟩ := Option.isSome_iff_exists.1 (hall 4 (by decide))
          obtain ⟨v9, hv9⟩ := Option.isSome_iff_exists.1 (hall 9 (by decide))
          obtain ⟨v10, hv10⟩ := Option.isSome_iff_exists.1 (hall 10 (by decide))
          obtain ⟨a7, c7, rfl, h7⟩ := (insT_some hv10).1 hT
          have H7 := Lib.hid h7
          simp only [putF, List.foldl, hv4, hv9, hv10, dstOf]
          clear h7 hT hall hv4 hv9 hv10
          simp only [Act.put, List.getElem?_toArray, List.getElem?_cons_zero, List.getElem?_cons_succ, Option.bind_some, List.setIfInBounds_toArray, List.set_cons_zero, List.set_cons_succ]
          (repeat ((first | (refine J_p (v := ?_) rfl rfl (fun w' => ?_) ?_; rotate_left; (go_simp; with_reducible rfl)) | (refine J_s (v := ?_) rfl rfl hS0 (fun w' hS => ?_) ?_; rotate_left; ((try dsimp only at hS); go_simp; with_reducible rfl)) | (refine J_t (v := ?_) rfl rfl ?_ ?_; rotate_left; (go_simp; with_reducible rfl)) | (refine J_po rfl rfl ?_) | (refine J_so rfl rfl hS0 ?_) | (refine J_to rfl rfl ?_)); simp only [Act.put, List.setIfInBounds_toArray, List.set_cons_zero, List.set_cons_succ]))
          refine J_nil ?_
          go_wp2
          go_meet
          case rel => exact ⟨a7, c7, rfl, H7.out⟩
        /-VED2-/
      clear HT0 hld hpre HXE
      obtain ⟨a2, c2, rfl, hS⟩ := hcut
      have hsx := HSUF.out wc hS.drop
      have hsufw := hsuf wc
      clear hsuf
      have hpl : (acs ((os.map (·.1)).drop k)).length = (i - k) * 19 := by rw [acs_len, List.length_drop, List.length_map, HOS.out.1]
      obtain ⟨vn, hvn⟩ : ∃ v, v = acs ((os.map (·.1)).drop k) := ⟨_, rfl⟩
      obtain ⟨vp, hvp⟩ : ∃ v, v = acs ((os.map (·.1)).take k) ++ p.1.cells := ⟨_, rfl⟩
      have hv1 : ∀ u ∈ vn, u.oneCell' = true := by rw [hvn]; exact acs_one _
      rw [← hvn] at hsx hpl
      rw [← hvp] at hS
      have HVV := Lib.hid (And.intro hvn (And.intro hvp hv1))
      have HHX := Lib.hid (And.intro hsx hpl)
      have hS2 := hS
      have HJ2 := Lib.hid (Mem.le_trans HLE.out HK.out.2.2)
      clear hsx hpl hvn hvp hv1 hS
      go_upto_region 10 with (fail)
      go_wp2_with (at_builtin; (refine wpl_append_osl rfl (.tmp 43) (.tmp 46) 23 rfl 37 19 248 _ Tryz.underlying23 infoAct rfl rfl hS2 rfl vn HHX.out.2 HSN.out HHX.out.1 HVV.out.2.2 (by have := HKI.out; omega) (by have := HKI.out; unfold maxLen; omega) ?_))
      intro a5 c5 w5 h5
      have hlen : k + 1 + (i - k) = i + 1 := by have := HKI.out.1; omega
      have h6 : Sat W w5 (sep (osl 37 19 a5 (i + 1) c5 (acs ((sortTo cP Ls (i + 1)).map (·.1)))) (sep (kn J2) A)) := by
        rw [← HINS.out, ← HVV.out.1, ← HVV.out.2.1]
        rw [hlen, HX.out] at h5
        have h7 : Sat W w5 (sep (osl 37 19 a' i c' vs) (sep (osl 37 19 a5 (i + 1) c5 (vp ++ vn)) (sep (kn J2) A))) := by simpa only [sep_comm, sep_lcomm, sep_assoc] using h5
        exact h7.forget_osl
      rw [hlen]
      have H6 := Lib.hid h6
      clear h5 h6 hS2 hsufw hlen
      go_wp2_with fail
      go_roundw
      case rel => exact ⟨i + 1, a5, c5, _, J2, rfl, by go_num, by have := HLT.out; omega, Lib.hid ⟨HJ2.out, rfl⟩, H6.out⟩
      case measure => simp [intOf]; have := HLT.out; omega
    · obtain rfl : i = n := by omega
      have hsw := hS.swf_of_osl
      obtain ⟨J', hle, hcl, h9⟩ := hS.osl_settle.learn
      have hv := HJ.out.2
      have HF : Hid (Mem.le I J' ∧ Swf a' i c' ∧ cellsAt a' (acs ((sortP cP Ls).map (·.1))) J' ∧ Sat W wr (sep (kn J') A)) := Lib.hid ⟨Mem.le_trans HJ.out.1 hle, hsw, by unfold sortP; rw [← HN.out, ← hv]; exact hcl, h9⟩
      clear hS hsw hle hcl h9 hv hlt hi HJ
      go_wp2
      rw [HPO.out]
      exact ⟨a', c', J', rfl, HF.out.1, HF.out.2.1, HF.out.2.2.1, HF.out.2.2.2⟩
end Go.Proofs.YtodipneapffjdaaGreatDoor
