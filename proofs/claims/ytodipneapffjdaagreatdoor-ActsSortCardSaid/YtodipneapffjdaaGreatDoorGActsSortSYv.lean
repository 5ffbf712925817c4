/- ActsSort: the walk. -/
import Derived.Test.YtodipneapffjdaaGreatDoorGActsSort48
import Derived.Test.YtodipneapffjdaaGreatDoorGActsSortSYw
import Derived.Test.YtodipneapffjdaaGreatDoorGActsSort13
import Derived.Deep.CutBlock
import Derived.Deep.CutRange
namespace PA
open Go Go.RowKit
/-- What is known of an act that the generator made. -/
structure GenA (J : Mem) (z : Ac) (p : Pa) : Prop where
  is : IsA J z p
  sz : SzA p
  en : EncOK p
  ok : validA p = true
theorem GenA.mono {I J : Mem} {z : Ac} {p : Pa} (hl : Mem.le I J) (h : GenA I z p) : GenA J z p := ⟨h.is.mono hl, h.sz, h.en, h.ok⟩
theorem made_gen {J : Mem} {zl : List Ac} {ps : List Pa} (h : All2 (IsA J) zl ps) (hm : Made ps) (hn : zl.length ≤ 14) : (∃ g : Ac → Pa, ∀ z ∈ zl, GenA J z (g z)) ∧ zl.Pairwise KeyNe := by
  have hl := h.length
  have hat : ∀ (i : Nat) (hi : i < zl.length) (hp : i < ps.length), GenA J zl[i] ps[i] ∧ zl[i].n = 4 * (i : Int) := fun i hi hp => by
    have h1 := h.get i hi hp
    obtain ⟨h2, h3, -⟩ := hm i hp
    have hf : filN (ps.take i) ≤ 100 := by
      have : filN (ps.take i) ≤ (ps.take i).length := List.length_filter_le _ _
      rw [List.length_take] at this; omega
    have hb : 0 ≤ ps[i].n ∧ ps[i].n ≤ 1000000 := by rw [h3]; omega
    have hs := goodA_shape hf h2 hb
    exact ⟨⟨h1, hs.size, hs.enc, goodA_valid hf h2 hb⟩, by rw [h1.n, h3]⟩
  constructor
  · have h2 : ∀ z, ∃ p, z ∈ zl → GenA J z p := fun z => by
      by_cases hz : z ∈ zl
      · obtain ⟨i, hi, rfl⟩ := List.mem_iff_getElem.1 hz
        exact ⟨ps[i]'(by omega), fun _ => (hat i hi (by omega)).1⟩
      · exact ⟨Pa.zero, fun h => absurd h hz⟩
    obtain ⟨g, hg⟩ := Classical.axiomOfChoice h2
    exact ⟨g, fun z hz => hg z hz⟩
  · refine List.pairwise_iff_getElem.2 fun i j hi hj hij => .inr ?_
    rw [(hat i hi (by omega)).2, (hat j hj (by omega)).2]; omega
end PA
namespace Go.Proofs.YtodipneapffjdaaGreatDoor
open Go.RowKit PA
theorem run_stAct_of {g o : Nat} {x : Ac} {w w' : World} (h : Sem.run Tryz.prog (storeCells ⟨g, o, none⟩ x.cells 0) w = .ok () w') : Sem.run Tryz.prog (stAct (.pointer (some ⟨g, o, none⟩)) (.agg x.cells.toArray)) w = .ok () w' := by
  have hk : ¬ (Value.agg x.cells.toArray).cells.size ≠ kA := by
    intro hc; exact hc rfl
  show Sem.run Tryz.prog (storeVar 37 ⟨g, o, none⟩ (.agg x.cells.toArray)) w = _
  unfold storeVar
  rw [Sem.run_bind, sizeAct]
  show Sem.run Tryz.prog (if (Value.agg x.cells.toArray).cells.size ≠ kA then _ else _) w = _
  rw [if_neg hk]
  exact h
theorem arow_ldA {W w : World} {A : Assn} {g N : Nat} {f : Nat → Ac} {tl : List Value} (h : Sat W w (sep (arow g N f tl) A)) (i : Nat) (hi : i < N) : Sem.run Tryz.prog (ldAct (.pointer (some ⟨g, i * 19, none⟩))) w = .ok (.agg (f i).cells.toArray) w := by
  show Sem.run Tryz.prog (loadVar 37 ⟨g, i * 19, none⟩) w = _
  unfold loadVar
  exact ldgen (Go.isAgg 37) (Go.sizeOf 37) (loadCells ⟨g, i * 19, none⟩) _ (isAggAct w) (sizeAct w) (arow_ld h i hi)
attribute [local go_sem ↓] storeAt_act loadAt_act sizeAct buildSlice_ac
set_option maxRecDepth 100000 in
set_option maxHeartbeats 32000000 in
theorem actsSort_walk (a0 : Option Addr) (len0 cap0 : Nat) (z0 : List Int) (a1 : Option Addr) (len1 cap1 : Nat) (z1 : List Int) (w : World) (hW : WholeOK w)
    (w0 : IsArg w a0 len0 cap0 z0) (w1 : IsArg w a1 len1 cap1 z1) :
    Calls Tryz.prog 3 #[.slice a0 len0 cap0, .slice a1 len1 cap1] w fun e w' => e = .returned (.bool true) ∧ Below w.heap.size w w' := by
  obtain ⟨l, rfl, hr0, h64⟩ := argI w0
  obtain ⟨m, rfl, hr1, h641⟩ := argI w1
  have hscr := Lib.hid (script18_own (.slice a0 l.length cap0) l 14 (by omega) ⟨⟨a0, cap0, rfl⟩, hr0, h64⟩ (Sat.startKn w))
  have HR1 := Lib.hid (And.intro hr1 h641)
  have hlm63 := (slice_len hr1).2.2
  obtain ⟨ll, hll⟩ : ∃ ll, ll = l.length := ⟨_, rfl⟩
  obtain ⟨lm, hlm⟩ : ∃ lm, lm = m.length := ⟨_, rfl⟩
  rw [← hll] at hscr ⊢
  rw [← hlm] at hlm63 HR1 ⊢
  have HLM := Lib.hid hlm
  have HWF : Hid (FieldsOK w) := Lib.hid hW
  clear hr0 hr1 h64 h641 w0 w1 hll hlm hW
  go_enter Tryz.func3, Tryz.ntmps3
  go_wp2_with fail
  refine hscr.out.mono ?_
  rintro e w1 ⟨a, n, c, zl, ps, J, rfl, hn, hn14, hn0, hle, hall, hmade, h1⟩
  obtain ⟨⟨g, hg⟩, hkey⟩ := made_gen hall hmade (by omega)
  have HG := Lib.hid (And.intro hg hkey)
  have HN := Lib.hid (And.intro hn (And.intro hn0 hle))
  have H1 := Lib.hid h1
  have hn63 : (n : Int) ≤ 14 := by omega
  clear hn hn0 hle hall hmade h1 hg hkey hscr
  go_upto_block 0 with (fail)
  go_cut [] from 6 to 45 (fun wx => ∃ zs : List Ac, Hid (zs.Perm zl) ∧ Sat w wx (sep (osl 37 19 a n c (acs zs)) (sep (kn J) emp)))
  case first =>
    as_aux_lemma =>
    /-DEV1-/
    by_cases n0 : n = 0
    · subst n0
      go_wp2_with fail
      go_loopw [6] (fun kv wr => ∃ i : Nat, kv = .int .i64 i ∧ i ≤ lm ∧ wr = w1) (fun kv _ => lm - (intOf kv).toNat)
      case atStart => exact ⟨0, rfl, by omega, rfl⟩
      case round =>
        obtain ⟨i, rfl, hi, rfl⟩ := hrel
        by_cases hlt : i < lm
        · have hltz : (i : Int) < (lm : Int) := by omega
          go_wp2
          go_meet
          case rel => exact ⟨zl, Lib.hid (.refl _), H1.out⟩
        · have hltz : ¬ (i : Int) < (lm : Int) := by omega
          go_wp2
          go_meet
          case rel => exact ⟨zl, Lib.hid (.refl _), H1.out⟩
    · obtain ⟨g0, tl, rfl, hc1, hc2, hc3, h2⟩ := osl_arow HN.out.1.symm (by omega) H1.out
      have HCC := Lib.hid (And.intro hc1 (And.intro hc2 hc3))
      have H2 := Lib.hid h2
      have hpos : (0 : Int) < (n : Int) := by omega
      have HP0 : Hid ((List.range n).map (fun i => zl.getD i default) = zl) := Lib.hid (by rw [HN.out.1]; exact list_of_fn zl)
      clear hc1 hc2 hc3 h2 H1 n0
      go_wp2_with fail
      go_loopw [6] (fun kv wr => ∃ (i : Nat) (f : Nat → Ac), kv = .int .i64 i ∧ i ≤ lm ∧ Hid (((List.range n).map f).Perm zl) ∧ Sat w wr (sep (arow g0 n f tl) (sep (kn J) emp))) (fun kv _ => lm - (intOf kv).toNat)
      case atStart => exact ⟨0, _, rfl, by omega, Lib.hid (by rw [HP0.out]), H2.out⟩
      case round =>
        obtain ⟨i, f, rfl, hi, HPM, hS⟩ := hrel
        clear H2
        by_cases hlt : i < lm
        · have hltz : (i : Int) < (lm : Int) := by omega
          obtain ⟨x, hx⟩ : ∃ x, m[i]? = some x := ⟨_, List.getElem?_eq_getElem (by have := HLM.out; omega)⟩
          obtain ⟨b, o, hba, hcell⟩ := int_elem HR1.out.1 hx
          have hx64 := HR1.out.2 x (List.mem_of_getElem? hx)
          have j0 := hcell wr (ext_le HN.out.2.2 hS.p1.ext)
          have har := around_spec x (n : Int) wr hx64.1 hx64.2 (by omega) (by omega)
          obtain ⟨k, hk⟩ : ∃ k : Nat, aroundI x (n : Int) = (k : Int) := ⟨(aroundI x n).toNat, by have := aroundI_lt x n (by omega); omega⟩
          have hkn : k < n := by have := aroundI_lt x n (by omega); omega
          rw [hk] at har
          have HAR := Lib.hid har
          have hkz : (k : Int) < (n : Int) := by omega
          have hd := hS.drew
          obtain ⟨wd, hwd⟩ : ∃ y, y = wr.drew := ⟨_, rfl⟩
          rw [← hwd] at hd
          have hlk := arow_ldA hd k hkn
          have hl0 : Sem.run Tryz.prog (ldAct (.pointer (some ⟨g0, 0, none⟩))) wd = .ok (.agg (f 0).cells.toArray) wd := by
            have := arow_ldA hd 0 (by omega)
            rwa [Nat.zero_mul] at this
          obtain ⟨wA, hsA, hA⟩ := arow_st hd 0 (by omega) (f k)
          obtain ⟨wB, hsB, hB⟩ := arow_st hA k hkn (f 0)
          rw [swF_set f 0 k] at hB
          rw [Nat.zero_mul] at hsA
          have st1 := run_stAct_of hsA
          have st2 := run_stAct_of hsB
          have HPM2 : Hid (((List.range n).map (swF f k 0)).Perm zl) := Lib.hid ((sw_perm1 n f k 0 hkn (by omega)).trans HPM.out)
          have HB := Lib.hid hB
          have HLT := Lib.hid hlt
          have HWD := Lib.hid hwd
          subst hba
          clear hx hcell hx64 har hk hkn hd hwd hsA hA hsB hB hlt hi hS HPM
          go_upto_region 5 with (fail)
          go_wp2_with fail
          refine HAR.out.mono ?_
          rintro e w2 ⟨rfl, rfl⟩
          clear j0 HAR
          go_upto_region 6 with (fail)
          refine wp_region_canon rfl (fun _ => True) [(0, .p), (1, .p), (2, .p), (3, .p), (4, .p), (5, .p), (6, .t), (7, .p), (8, .p), (9, .t), (10, .p), (11, .e false), (12, .p), (13, .e false)] (by kernel_rfl) ?_
          rw [← HWD.out]
          have hS0 : True := trivial
          (repeat ((first | (refine C_p (v := ?_) rfl rfl (fun w' => ?_) ?_; rotate_left; (go_simp; with_reducible rfl)) | (refine C_s (v := ?_) rfl rfl hS0 (fun w' hS => ?_) ?_; rotate_left; ((try dsimp only at hS); go_simp; with_reducible rfl)) | (refine C_t (v := ?_) rfl rfl ?_ ?_; rotate_left; (go_simp; with_reducible rfl)) | (refine C_po rfl rfl ?_) | (refine C_so rfl rfl hS0 ?_) | (refine C_to rfl rfl ?_)); simp only [Act.put, List.setIfInBounds_toArray, List.set_cons_zero, List.set_cons_succ]))
          (refine C_e rfl rfl (fun K hK => ?_); go_simp)
          (refine hK _ _ (fun h => by cases h) ?_; clear hK K; (try simp only [Act.put, List.setIfInBounds_toArray, List.set_cons_zero, List.set_cons_succ]))
          (repeat ((first | (refine C_p (v := ?_) rfl rfl (fun w' => ?_) ?_; rotate_left; (go_simp; with_reducible rfl)) | (refine C_s (v := ?_) rfl rfl hS0 (fun w' hS => ?_) ?_; rotate_left; ((try dsimp only at hS); go_simp; with_reducible rfl)) | (refine C_t (v := ?_) rfl rfl ?_ ?_; rotate_left; (go_simp; with_reducible rfl)) | (refine C_po rfl rfl ?_) | (refine C_so rfl rfl hS0 ?_) | (refine C_to rfl rfl ?_)); simp only [Act.put, List.setIfInBounds_toArray, List.set_cons_zero, List.set_cons_succ]))
          (refine C_e rfl rfl (fun K hK => ?_); go_simp)
          (refine hK _ _ (fun h => by cases h) ?_; clear hK K; (try simp only [Act.put, List.setIfInBounds_toArray, List.set_cons_zero, List.set_cons_succ]))
          refine C_nil ?_
          clear hlk hl0 st1 st2
          go_wp2
          go_roundw
          case rel => exact ⟨i + 1, _, by go_num, by have := HLT.out; omega, HPM2, HB.out⟩
          case measure => simp [intOf]; have := HLT.out; omega
        · have hltz : ¬ (i : Int) < (lm : Int) := by omega
          have HF : Hid (∃ zs : List Ac, Hid (zs.Perm zl) ∧ Sat w wr (sep (osl 37 19 (some ⟨g0, 0, none⟩) n c (acs zs)) (sep (kn J) emp))) := Lib.hid ⟨_, HPM, arow_osl HCC.out.1 HCC.out.2.1 HCC.out.2.2 hS⟩
          clear hS hlt hi HPM
          go_wp2
          go_meet
          case rel => exact HF.out
    /-VED1-/
  obtain ⟨zs, HPM, hS⟩ := hcut
  have hsw := hS.swf_of_osl
  obtain ⟨J1, hle1, hcl1, hS1⟩ := hS.osl_settle.learn
  have hzn : zs.length = n := by rw [HPM.out.length_eq]; exact HN.out.1.symm
  have hzk : zs.Pairwise KeyNe := (List.Perm.pairwise_iff (fun h => h.symm) HPM.out).2 HG.out.2
  have hzg : ∀ z ∈ zs, GenA J1 z (g z) := fun z hz => (HG.out.1 z (HPM.out.mem_iff.1 hz)).mono hle1
  have HZ := Lib.hid (And.intro hzn (And.intro hzk hzg))
  have HC1 := Lib.hid (And.intro hsw hcl1)
  have H3 := Lib.hid hS1
  have HL1 := Lib.hid (Mem.le_trans HN.out.2.2 hle1)
  clear hS hsw hle1 hcl1 hS1 hzn hzk hzg HPM H1
  go_upto_block 2 with (fail)
  go_cut [8] from 9 to 59 (fun bv wx => ∃ (b : Option Addr) (d : Nat), bv = .slice b n d ∧ Hid (n = 0 → b = none) ∧ Sat w wx (sep (osl 37 19 b n d (acs zs.reverse)) (sep (kn J1) emp)))
  case first =>
    as_aux_lemma =>
    /-DEV2-/
    go_wp2_with fail
    go_loopw [8, 9] (fun bv kv wr => ∃ (t : Nat) (b : Option Addr) (d : Nat) (vs : List Value) (iz : Int), bv = .slice b t d ∧ kv = .int .i64 iz ∧ iz = (n : Int) - 1 - (t : Int) ∧ t ≤ n ∧ Hid (vs = acs (zs.reverse.take t) ∧ (t = 0 → b = none)) ∧ Sat w wr (sep (osl 37 19 b t d vs) (sep (kn J1) emp))) (fun _ kv _ => (intOf kv + 1).toNat)
    case atStart => exact ⟨0, none, 0, [], _, rfl, rfl, by first | omega | go_num, by omega, Lib.hid ⟨rfl, fun _ => rfl⟩, H3.out.osl_nil _ _⟩
    case round =>
      obtain ⟨t, b, d, vs, iz, rfl, rfl, hiz, ht, HV, hS⟩ := hrel
      clear H3
      by_cases hlt : t < n
      · obtain ⟨ix, hix⟩ : ∃ ix : Nat, iz = (ix : Int) := ⟨n - 1 - t, by omega⟩
        subst hix
        have hxt : ix + t + 1 = n := by omega
        have hixl : ix < zs.length := by have := HZ.out.1; omega
        have hixz : (ix : Int) < (n : Int) := by omega
        obtain ⟨z, hz⟩ : ∃ z, z = zs[ix] := ⟨_, rfl⟩
        have hrt : zs.reverse[t]? = some z := by
          rw [List.getElem?_reverse (by have := HZ.out.1; omega), show zs.length - 1 - t = ix by have := HZ.out.1; omega, List.getElem?_eq_getElem hixl, hz]
        obtain ⟨b0, o, hab, hld⟩ := acts_atY HC1.out.2 (fun e => by rw [e] at hixl; simp at hixl)
        have hldz := hld wr hS.p1.ext ix hixl
        rw [← hz] at hldz
        have hbs := bs_ac z wr
        have hAl := hS.alloc (.cells z.cells.toArray 37)
        obtain ⟨M, hM⟩ : ∃ M, M = wr.heap.size := ⟨_, rfl⟩
        obtain ⟨w5, hw5⟩ : ∃ y, y = wr.alloc (.cells z.cells.toArray 37) := ⟨_, rfl⟩
        rw [← hM, ← hw5] at hbs hAl
        have hAp : Sat w w5 (sep (osl 37 19 b t d vs) (sep (blk M (.cells z.cells.toArray 37 (0, 0))) (sep (kn J1) emp))) := by simpa only [sep_comm, sep_lcomm, sep_assoc] using hAl
        have hsrc : ∀ b', some (⟨M, 0, none⟩ : Addr) = some b' → ∀ j u, z.cells[j]? = some u → w5.cell? (b'.add j) = some u := by
          intro b' hb j u hu
          cases hb
          rw [show (⟨M, 0, none⟩ : Addr).add j = ⟨M, j, none⟩ by unfold Addr.add; split <;> simp_all]
          exact (act_fr hAl j u hu).1
        have HSRC := Lib.hid hsrc
        have HAP := Lib.hid hAp
        have HNX : Hid (acs (zs.reverse.take (t + 1)) = acs (zs.reverse.take t) ++ z.cells ∧ ix + t + 1 = n) := Lib.hid ⟨by rw [List.take_add_one, hrt, acs_append]; simp [acs], hxt⟩
        subst hab
        clear hz hrt hld hAl hM hsrc hAp hlt hiz ht hS hxt
        go_upto_region 11 with (fail)
        go_wp2_with (at_builtin; ((try rw [← hw5]); refine wpl_append_osl rfl (.tmp 53) (.tmp 58) 23 rfl 37 19 248 _ Tryz.underlying23 infoAct rfl rfl HAP.out rfl z.cells rfl (by simp) HSRC.out z.one (by have := HNX.out.2; omega) (by have := HNX.out.2; unfold maxLen; omega) ?_))
        intro a6 c6 w6 h6
        have h7 : Sat w w6 (sep (osl 37 19 a6 (t + 1) c6 (vs ++ z.cells)) (sep (kn J1) emp)) := by
          exact Sat.drop (by simpa only [sep_comm, sep_lcomm, sep_assoc] using h6 : Sat w w6 (sep (blk M (.cells z.cells.toArray 37 (0, 0))) (sep (osl 37 19 a6 (t + 1) c6 (vs ++ z.cells)) (sep (kn J1) emp))))
        obtain ⟨vn, hvn⟩ : ∃ vn, vn = vs ++ z.cells := ⟨_, rfl⟩
        rw [← hvn] at h7
        have HVN := Lib.hid hvn
        have H7 := Lib.hid h7
        clear h6 h7 hvn HAP HSRC hbs hw5 hldz
        go_wp2_with fail
        go_roundw
        case rel => exact ⟨t + 1, a6, c6, vn, _, rfl, rfl, by have := HNX.out.2; omega, by have := HNX.out.2; omega, Lib.hid ⟨by rw [HVN.out, HV.out.1, HNX.out.1], fun e => by omega⟩, H7.out⟩
        case measure => simp [intOf]
      · obtain rfl : t = n := by omega
        have hneg : ¬ (0 : Int) ≤ iz := by omega
        have HF : Hid (Sat w wr (sep (osl 37 19 b t d (acs zs.reverse)) (sep (kn J1) emp))) := Lib.hid (by
          have e : zs.reverse.take t = zs.reverse := List.take_of_length_le (by rw [List.length_reverse]; have := HZ.out.1; omega)
          rw [← e, ← HV.out.1]; exact hS)
        have HB0 : Hid (t = 0 → b = none) := Lib.hid HV.out.2
        clear hS hlt hiz ht HV
        go_wp2
        go_meet
        case rel => exact ⟨b, d, rfl, HB0, HF.out⟩
    /-VED2-/
  clear H3
  obtain ⟨b, d, rfl, HB0, hS⟩ := hcut
  have hsw := hS.swf_of_osl
  obtain ⟨J2, hle2, hcl2, hS2⟩ := hS.osl_settle.learn
  have HC2 := Lib.hid (And.intro hsw (And.intro hcl2 hle2))
  have hrk : zs.reverse.Pairwise KeyNe := (List.Perm.pairwise_iff (fun h => h.symm) (List.reverse_perm zs)).2 HZ.out.2.1
  have hx := sort_anyY a n c zs HZ.out.1.symm HZ.out.2.1 (by omega) HC1.out.1 (fun e => (HN.out.2.1 e).1) (cellsAt_mono hle2 HC1.out.2) hS2
  have HX := Lib.hid hx
  have HRK := Lib.hid hrk
  clear hS hsw hle2 hcl2 hS2 hx hrk
  go_upto_region 12 with (fail)
  go_wp2_with fail
  refine HX.out.mono ?_
  rintro e w2 ⟨ys, xb, xd, J3, rfl, hp3, hasc3, hle3, hsw3, hx03, hc3, h3⟩
  have HY := Lib.hid (And.intro hp3 (And.intro hasc3 (And.intro hsw3 (And.intro hx03 hc3))))
  have hy := sort_anyY b n d zs.reverse (by rw [List.length_reverse]; exact HZ.out.1.symm) HRK.out (by omega) HC2.out.1 HB0.out (cellsAt_mono hle3 HC2.out.2.1) h3
  have HSY := Lib.hid hy
  have HL3 := Lib.hid hle3
  clear hp3 hasc3 hle3 hsw3 hx03 hc3 h3 hy HX
  go_upto_region 13 with (fail)
  go_wp2_with fail
  refine HSY.out.mono ?_
  rintro e w3 ⟨ys2, yb, yd, J4, rfl, hp4, hasc4, hle4, hsw4, hx04, hc4, h4⟩
  have hyn : n = ys.length := by rw [HY.out.1.length_eq]; exact HZ.out.1.symm
  have hyk : ys.Pairwise KeyNe := (List.Perm.pairwise_iff (fun h => h.symm) HY.out.1).2 HZ.out.2.1
  have e2 : ys2 = ys := (asc_unique cmpK_ne ys ys2 HY.out.2.1 hasc4 (HY.out.1.trans ((List.reverse_perm zs).symm.trans hp4.symm)) hyk).symm
  rw [e2] at hc4
  have hz := sort_anyY xb n xd ys hyn hyk (by omega) HY.out.2.2.1 HY.out.2.2.2.1 (cellsAt_mono hle4 HY.out.2.2.2.2) h4
  have HSZ := Lib.hid hz
  have HL4 := Lib.hid (And.intro hle4 hc4)
  have HYK := Lib.hid (And.intro hyn hyk)
  clear hp4 hasc4 hle4 hsw4 hx04 hc4 h4 hyn hyk hz HSY e2
  go_upto_region 14 with (fail)
  go_wp2_with fail
  refine HSZ.out.mono ?_
  rintro e w4 ⟨ys3, zb, zd, J5, rfl, hp5, hasc5, hle5, hsw5, hx05, hc5, h5⟩
  have e3 : ys3 = ys := (asc_unique cmpK_ne ys ys3 HY.out.2.1 hasc5 hp5.symm HYK.out.2).symm
  rw [e3] at hc5
  have hle15 : Mem.le J1 J5 := Mem.le_trans HC2.out.2.2 (Mem.le_trans HL3.out (Mem.le_trans HL4.out.1 hle5))
  obtain ⟨Ls, hLs⟩ : ∃ Ls : List (Ac × Pa), Ls = zs.map fun z => (z, g z) := ⟨_, rfl⟩
  have hLf : Ls.map (·.1) = zs := by rw [hLs, List.map_map]; exact List.map_id zs
  have hLA : ∀ p ∈ Ls, GenA J5 p.1 p.2 := fun p hp => by
    rw [hLs] at hp
    obtain ⟨z, hz, rfl⟩ := List.mem_map.1 hp
    exact (HZ.out.2.2 z hz).mono hle15
  have hr := sort18_spec a n c Ls (by rw [hLs, List.length_map]; exact HZ.out.1.symm) (by omega) (by rw [hLf]; exact cellsAt_mono hle15 HC1.out.2) (fun p hp => ⟨(hLA p hp).is, (hLA p hp).sz, (hLA p hp).en⟩) h5
  obtain ⟨hsa, hsp⟩ := sortP_asc (I := J5) (Ls := Ls) (fun p hp => (hLA p hp).is) (by rw [hLf]; exact HZ.out.2.1)
  rw [hLf] at hsp
  have e4 : (sortP cP Ls).map (·.1) = ys := (asc_unique cmpK_ne ys _ HY.out.2.1 hsa (HY.out.1.trans hsp.symm) HYK.out.2).symm
  have HSR := Lib.hid hr
  have HLS : Hid (∀ p ∈ sortP cP Ls, GenA J5 p.1 p.2) := Lib.hid fun p hp => hLA p ((sortP_perm cP Ls).mem_iff.1 hp)
  have HLN : Hid (n = (sortP cP Ls).length) := Lib.hid (by rw [(sortP_perm cP Ls).length_eq, hLs, List.length_map]; exact HZ.out.1.symm)
  have HL5 := Lib.hid (And.intro hle5 (And.intro hc5 e4))
  clear e3 hp5 hasc5 hle5 hsw5 hx05 hc5 h5 hle15 hLs hLf hLA hr hsa hsp e4 HSZ
  go_upto_region 15 with (fail)
  go_wp2_with fail
  refine HSR.out.mono ?_
  rintro e w5 ⟨rb, rd, J6, rfl, hle6, hsw6, hc6, h6⟩
  have HS6 : Hid (∀ (x1 x2 : Option Addr) (d1 d2 : Nat) (w' : World) (K : Mem), Mem.le J6 K → cellsAt x1 (acs ys) K → cellsAt x2 (acs ys) K → Sat w w' (sep (kn K) emp) → Calls Tryz.prog 7 #[.slice x1 n d1, .slice x2 n d2] w' fun e w'' => ∃ K2, e = .returned (.bool true) ∧ Mem.le K K2 ∧ Sat w w'' (sep (kn K2) emp)) := Lib.hid fun x1 x2 d1 d2 w' K hl h1 h2 h' =>
    same18_spec x1 x2 n d1 d2 (sortP cP Ls) HLN.out (by omega) (by rw [HL5.out.2.2]; exact h1) (by rw [HL5.out.2.2]; exact h2) (fun p hp => ⟨((HLS.out p hp).mono (Mem.le_trans hle6 hl)).is, (HLS.out p hp).sz, (HLS.out p hp).en⟩) (fun p hp => (HLS.out p hp).ok) h'
  have hcx : cellsAt xb (acs ys) J6 := cellsAt_mono (Mem.le_trans HL4.out.1 (Mem.le_trans HL5.out.1 hle6)) HY.out.2.2.2.2
  have hcy : cellsAt yb (acs ys) J6 := cellsAt_mono (Mem.le_trans HL5.out.1 hle6) HL4.out.2
  have hcz : cellsAt zb (acs ys) J6 := cellsAt_mono hle6 HL5.out.2.1
  have hcr : cellsAt rb (acs ys) J6 := by rw [← HL5.out.2.2]; exact hc6
  have HCX := Lib.hid (And.intro hcx (And.intro hcy (And.intro hcz hcr)))
  have H6 := Lib.hid h6
  clear hle6 hsw6 hc6 h6 hcx hcy hcz hcr HSR
  go_wp2_with fail
  refine (HS6.out xb rb xd rd _ J6 (Mem.le_refl _) HCX.out.1 HCX.out.2.2.2 H6.out).mono ?_
  rintro e w6 ⟨K1, rfl, hk1, h7⟩
  have HK1 := Lib.hid hk1
  have H7 := Lib.hid h7
  clear hk1 h7 H6
  go_wp2_with fail
  refine (HS6.out xb yb xd yd _ K1 HK1.out (cellsAt_mono HK1.out HCX.out.1) (cellsAt_mono HK1.out HCX.out.2.1) H7.out).mono ?_
  rintro e w7 ⟨K2, rfl, hk2, h8⟩
  have HK2 := Lib.hid (Mem.le_trans HK1.out hk2)
  have H8 := Lib.hid h8
  clear hk2 h8 H7
  go_wp2_with fail
  refine (HS6.out xb zb xd zd _ K2 HK2.out (cellsAt_mono HK2.out HCX.out.1) (cellsAt_mono HK2.out HCX.out.2.2.1) H8.out).mono ?_
  rintro e w8 ⟨K3, rfl, hk3, h9⟩
  have HK3 := Lib.hid (Mem.le_trans HK2.out hk3)
  have H9 := Lib.hid h9
  have HCK := Lib.hid (cellsAt_mono (Mem.le_trans HK2.out hk3) HCX.out.1)
  clear hk3 h9 H8
  go_upto_block 4 with (fail)
  go_cut [] from 13 to 99 (fun wx => Sat w wx (sep (kn K3) emp))
  case first =>
    as_aux_lemma =>
    /-DEV3-/
    go_wp2_with fail
    go_loopw [13] (fun kv wr => ∃ i : Nat, kv = .int .i64 i ∧ 1 ≤ i ∧ i ≤ n + 1 ∧ Sat w wr (sep (kn K3) emp)) (fun kv _ => n + 1 - (intOf kv).toNat)
    case atStart => exact ⟨1, rfl, by omega, by omega, H9.out⟩
    case round =>
      obtain ⟨i, rfl, hi1, hi, hS⟩ := hrel
      clear H9
      by_cases hlt : i < n
      · have hltz : (i : Int) < (n : Int) := by omega
        obtain ⟨k, hk⟩ : ∃ k, i = k + 1 := ⟨i - 1, by omega⟩
        have hik : i < ys.length := by have := HYK.out.1; omega
        have hkk : k < ys.length := by omega
        obtain ⟨b0, o, hab, hld⟩ := acts_atY HCK.out (fun e => by rw [e] at hik; simp at hik)
        have hd := hS.drew
        obtain ⟨wd, hwd⟩ : ∃ y, y = wr.drew := ⟨_, rfl⟩
        rw [← hwd] at hd
        have l1 := hld wd hd.ext k hkk
        have l2 := hld wd hd.ext i hik
        obtain ⟨u, hu⟩ : ∃ u, u = ys[k] := ⟨_, rfl⟩
        obtain ⟨v, hv⟩ : ∃ v, v = ys[i] := ⟨_, rfl⟩
        have hne : KeyNe u v := by rw [hu, hv]; exact List.pairwise_iff_getElem.1 HYK.out.2 k i hkk hik (by omega)
        have hle0 : cmpK u v ≤ 0 := by rw [hu, hv]; exact List.pairwise_iff_getElem.1 HY.out.2.1 k i hkk hik (by omega)
        have hcm := compareK_spec u v hne hd
        rw [← hu] at l1
        rw [← hv] at l2
        obtain ⟨r, hr⟩ : ∃ r, r = cmpK u v := ⟨_, rfl⟩
        rw [← hr] at hcm hle0
        have HCM := Lib.hid hcm
        have hw1 : IntKind.i64.wrap ((i : Int) - 1) = (k : Int) := by rw [show (i : Int) - 1 = (k : Int) by omega]; exact IntWalk.i64_in _ (by omega)
        have hkz : (k : Int) < (n : Int) := by omega
        have hrb : decide (0 < r) = false := decide_eq_false (by omega)
        have HI := Lib.hid (And.intro hlt hi1)
        have HWD := Lib.hid hwd
        subst hab
        clear hk hik hkk hld hd hwd hu hv hne hle0 hcm hr hlt hi hi1 hS
        go_upto_region 20 with (fail)
        refine wp_region_canon rfl (fun _ => True) [(0, .p), (1, .p), (2, .p), (3, .p), (4, .t), (5, .p), (6, .p), (7, .p), (8, .t), (9, .e false), (10, .p)] (by kernel_rfl) ?_
        rw [← HWD.out]
        have hS0 : True := trivial
        (repeat ((first | (refine C_p (v := ?_) rfl rfl (fun w' => ?_) ?_; rotate_left; (go_simp; with_reducible rfl)) | (refine C_s (v := ?_) rfl rfl hS0 (fun w' hS => ?_) ?_; rotate_left; ((try dsimp only at hS); go_simp; with_reducible rfl)) | (refine C_t (v := ?_) rfl rfl ?_ ?_; rotate_left; (go_simp; with_reducible rfl)) | (refine C_po rfl rfl ?_) | (refine C_so rfl rfl hS0 ?_) | (refine C_to rfl rfl ?_)); simp only [Act.put, List.setIfInBounds_toArray, List.set_cons_zero, List.set_cons_succ]))
        (refine C_e rfl rfl (fun K hK => ?_); go_simp)
        refine HCM.out.mono ?_
        rintro e w9 ⟨rfl, h10⟩
        have H10 := Lib.hid h10
        clear h10 HCM l1 l2
        (refine hK _ _ (fun h => by cases h) ?_; clear hK K; (try simp only [Act.put, List.setIfInBounds_toArray, List.set_cons_zero, List.set_cons_succ]))
        (repeat ((first | (refine C_p (v := ?_) rfl rfl (fun w' => ?_) ?_; rotate_left; (go_simp; with_reducible rfl)) | (refine C_s (v := ?_) rfl rfl hS0 (fun w' hS => ?_) ?_; rotate_left; ((try dsimp only at hS); go_simp; with_reducible rfl)) | (refine C_t (v := ?_) rfl rfl ?_ ?_; rotate_left; (go_simp; with_reducible rfl)) | (refine C_po rfl rfl ?_) | (refine C_so rfl rfl hS0 ?_) | (refine C_to rfl rfl ?_)); simp only [Act.put, List.setIfInBounds_toArray, List.set_cons_zero, List.set_cons_succ]))
        refine C_nil ?_
        go_wp2
        go_roundw
        case rel => exact ⟨i + 1, by go_num, by omega, by have := HI.out.1; omega, H10.out⟩
        case measure => simp [intOf]; have := HI.out; omega
      · have hltz : ¬ (i : Int) < (n : Int) := by omega
        have HF := Lib.hid hS
        clear hS hlt hi hi1
        go_wp2
        go_meet
        case rel => exact HF.out
    /-VED3-/
  clear H9
  have HLV := Lib.hid (lives18_spec HWF.out hcut)
  clear hcut
  go_wp2_with fail
  refine HLV.out.mono ?_
  rintro e w20 ⟨rfl, h20⟩
  have HBE := Lib.hid h20.below
  clear h20 HLV
  go_wp2
  go_ret
  exact ⟨rfl, HBE.out⟩
end Go.Proofs.YtodipneapffjdaaGreatDoor
