/- TitleOrder: its walk. -/
import Derived.Test.YtfapiopnjllnnaaGreatDoorGTitleOrder48
import Derived.Test.YtfapiopnjllnnaaGreatDoorGTitleOrderSTi
import Derived.Deep.DeepCutAuto
import Derived.Deep.CutBlock
namespace PA
open Go Go.Proofs.YtfapiopnjllnnaaGreatDoor
def mixK (s : Int) (i : Nat) (F : Nat → Ac) : Nat → Ac := fun k => if k < i then shK s (F k) else F k
theorem mixK_zero (s : Int) (F : Nat → Ac) : mixK s 0 F = F := by funext k; unfold mixK; rw [if_neg (by omega)]
theorem mixK_all (s : Int) (n : Nat) (F : Nat → Ac) : (List.range n).map (mixK s n F) = ((List.range n).map F).map (shK s) := by
  rw [List.map_map]
  refine List.map_congr_left fun k hk => ?_
  unfold mixK
  rw [if_pos (List.mem_range.1 hk)]; rfl
end PA
namespace Go.Proofs.YtfapiopnjllnnaaGreatDoor
open Go.RowKit PA
attribute [local go_sem ↓] sizeAct buildSlice_i3
attribute [local go_sem] bs_i3
theorem cells_shK (s : Int) (x : Ac) : (shK s x).cells = x.cells.set 2 (.int .i64 (x.n + s)) := rfl
set_option maxRecDepth 100000 in
set_option maxHeartbeats 16000000 in
theorem titleOrder_walk (a0 : Option Addr) (len0 cap0 : Nat) (z0 : List Int) (a1 : Option Addr) (len1 cap1 : Nat) (z1 : List Int) (a2 : Option Addr) (len2 cap2 : Nat) (z2 : List Int) (a3 a4 : Int) (w : World) (_hW : WholeOK w)
    (w0 : IsArg w a0 len0 cap0 z0) (w1 : IsArg w a1 len1 cap1 z1) (w2 : IsArg w a2 len2 cap2 z2) (w3 : (Lit.int .i64 a3).wf = true) (w4 : (Lit.int .i64 a4).wf = true) :
    Calls Tryz.prog 9 #[.slice a0 len0 cap0, .slice a1 len1 cap1, .slice a2 len2 cap2, .int .i64 a3, .int .i64 a4] w fun e w' => e = .returned (.bool true) ∧ Below w.heap.size w w' := by
  obtain ⟨l, rfl, hr0, h64⟩ := argI w0
  obtain ⟨m, rfl, hr1, h65⟩ := argI w1
  obtain ⟨q, rfl, hr2, h66⟩ := argI w2
  have i3 := i64_of_wf w3
  have i4 := i64_of_wf w4
  have hsc := scripts_spec (.slice a0 l.length cap0) (.slice a1 m.length cap1) l m ⟨⟨_, _, rfl⟩, hr0, h64⟩ ⟨⟨_, _, rfl⟩, hr1, h65⟩ (Sat.startKn w)
  obtain ⟨x1, hx1⟩ : ∃ x : Nat, aroundI a4 45 = (x : Int) := ⟨(aroundI a4 45).toNat, by have := aroundI_lt a4 45 (by omega); omega⟩
  obtain ⟨x2, hx2⟩ : ∃ x : Nat, aroundI a4 2000 = (x : Int) := ⟨(aroundI a4 2000).toNat, by have := aroundI_lt a4 2000 (by omega); omega⟩
  obtain ⟨x3, hx3⟩ : ∃ x : Nat, aroundI a4 3 = (x : Int) := ⟨(aroundI a4 3).toNat, by have := aroundI_lt a4 3 (by omega); omega⟩
  obtain ⟨s, hs⟩ : ∃ x : Nat, aroundI a3 1000 = (x : Int) := ⟨(aroundI a3 1000).toNat, by have := aroundI_lt a3 1000 (by omega); omega⟩
  have hb1 : x1 < 45 := by have := aroundI_lt a4 45 (by omega); omega
  have hb2 : x2 < 2000 := by have := aroundI_lt a4 2000 (by omega); omega
  have hb3 : x3 < 3 := by have := aroundI_lt a4 3 (by omega); omega
  have hbs : s < 1000 := by have := aroundI_lt a3 1000 (by omega); omega
  have HA : Hid (∀ w', Calls Tryz.prog 12 #[.int .i64 a4, .int .i64 45] w' fun e w'' => e = .returned (.int .i64 (x1 : Int)) ∧ w' = w'') := Lib.hid (fun w' => by rw [← hx1]; exact around_spec a4 45 w' i4.1 i4.2 (by omega) (by omega))
  have HB : Hid (∀ w', Calls Tryz.prog 12 #[.int .i64 a4, .int .i64 2000] w' fun e w'' => e = .returned (.int .i64 (x2 : Int)) ∧ w' = w'') := Lib.hid (fun w' => by rw [← hx2]; exact around_spec a4 2000 w' i4.1 i4.2 (by omega) (by omega))
  have HCC : Hid (∀ w', Calls Tryz.prog 12 #[.int .i64 a4, .int .i64 3] w' fun e w'' => e = .returned (.int .i64 (x3 : Int)) ∧ w' = w'') := Lib.hid (fun w' => by rw [← hx3]; exact around_spec a4 3 w' i4.1 i4.2 (by omega) (by omega))
  have HDD : Hid (∀ w', Calls Tryz.prog 12 #[.int .i64 a3, .int .i64 1000] w' fun e w'' => e = .returned (.int .i64 (s : Int)) ∧ w' = w'') := Lib.hid (fun w' => by rw [← hs]; exact around_spec a3 1000 w' i3.1 i3.2 (by omega) (by omega))
  have hbz1 : (x1 : Int) < 45 := by omega
  have hbz2 : (x2 : Int) < 2000 := by omega
  have hbz3 : (x3 : Int) < 3 := by omega
  have hbzs : (s : Int) < 1000 := by omega
  obtain ⟨va, hva⟩ : ∃ v, v = Value.slice a0 l.length cap0 := ⟨_, rfl⟩
  obtain ⟨vb, hvb⟩ : ∃ v, v = Value.slice a1 m.length cap1 := ⟨_, rfl⟩
  obtain ⟨lq, hlq⟩ : ∃ lq, lq = q.length := ⟨_, rfl⟩
  have HQ : Hid (∀ (J : Mem), Mem.le (wm w) J → ∀ w' i, Ext J w' → i < lq → ∃ b o z, a2 = some ⟨b, o, none⟩ ∧ I64' z ∧ w'.cell? ⟨b, o + i, none⟩ = some (.int .i64 z)) := Lib.hid (by
    intro J hle w' i he hi
    obtain ⟨a', c', e, hsw, hc⟩ := ints_rel.1 ((rInt.slice 1).mono hle hr2)
    simp only [Value.slice.injEq] at e
    obtain ⟨rfl, -, rfl⟩ := e
    have hiq : i < q.length := by omega
    obtain ⟨b, o, rfl, hcell⟩ := cells_ext hc (fun e => by have := congrArg List.length e; simp at this; rw [this] at hiq; simp at hiq)
    refine ⟨b, o, q[i], rfl, h66 _ (List.getElem_mem hiq), ?_⟩
    have := hcell w' he i (iv q[i]) (by rw [List.getElem?_map, List.getElem?_eq_getElem hiq]; rfl)
    exact this)
  have hlq63 : (lq : Int) ≤ 9223372036854775807 := by
    obtain ⟨a', c', e, hsw, hc⟩ := ints_rel.1 hr2
    have h1 := hsw.1; have h2 := hsw.2.1; unfold maxLen at h2
    omega
  rw [← hva, ← hvb] at hsc ⊢
  rw [← hlq]
  have HSC := Lib.hid hsc
  clear w0 w1 w2 w3 w4 hr0 hr1 hr2 h64 h65 h66 _hW hsc hx1 hx2 hx3 hs hb1 hb2 hb3 hbs hva hvb hlq i3 i4
  go_enter Tryz.func9, Tryz.ntmps9
  go_wp2_with fail
  refine HSC.out.mono ?_
  rintro e w1 ⟨L, v1, v2, v3, y2, y3, J, rfl, hle, hc, h1, h2, h3, g2, g3, l2, l3, hS⟩
  have HL := Lib.hid (lists_at2 hc h1 h2 h3 g2 g3 l2 l3)
  have HS := Lib.hid hS
  have HLE := Lib.hid hle
  clear hc h1 h2 h3 g2 g3 l2 l3 hS HSC hle
  go_wp2_with fail
  refine (HCC.out _).mono ?_
  rintro e w2 ⟨rfl, rfl⟩
  obtain ⟨v, xs, hL, hxn⟩ := HL.out x3 (by omega)
  have c1 := hL.1 w1 HS.out.ext
  obtain ⟨a, n, c, rfl, hn, hsw, hc⟩ := id hL.2.1
  have hS2 := (HS.out.alloc (.cells #[] 57)).osl_mk 0 0 19 [] rfl (by omega) (by unfold maxLen; omega) rfl rfl
  have hsrc := src_ext hc HS.out.ext
  have hn40 : n < 40 := by have := hL.2.2.2; omega
  obtain ⟨vs, hvs⟩ : ∃ vs, vs = acs xs := ⟨_, rfl⟩
  have HVL : Hid (vs.length = n * 19) := Lib.hid (by rw [hvs, acs_len, ← hn])
  have HV1 : Hid (∀ u ∈ vs, u.oneCell' = true) := Lib.hid (by rw [hvs]; exact acs_one _)
  rw [← hvs] at hsrc
  have HSR : Hid (∀ b, a = some b → ∀ j u, vs[j]? = some u → (w1.alloc (.cells #[] 57)).cell? (b.add j) = some u) := Lib.hid (fun b hb => old_src (hsrc b hb) _)
  have HZ : Hid (a = none → n = 0) := Lib.hid (fun e => by have := hsw.2.2 e; have := hsw.1; omega)
  have HLL := Lib.hid (And.intro hL (And.intro hxn (And.intro hn hvs)))
  have HS2 := Lib.hid hS2
  clear hL hxn hn hvs hsw hc hS2 hsrc HL HS
  go_upto_region 2 with (fail)
  clear c1
  go_wp2_with (at_builtin; refine wpl_append_osl rfl _ _ 29 rfl 57 19 248 _ Tryz.underlying29 infoAct rfl rfl HS2.out rfl vs HVL.out HZ.out HSR.out HV1.out (by omega) (by unfold maxLen; omega) ?_)
  intro a6 c6 w6 h6
  have h7 : Sat w w6 (sep (osl 57 19 a6 n c6 (acs xs)) (sep (kn J) emp)) := by
    have h9 := h6
    try simp only [Nat.zero_add, List.nil_append] at h9
    rw [← HLL.out.2.2.2]; exact h9
  obtain ⟨F, hF⟩ : ∃ F : Nat → Ac, F = fun i => xs.getD i default := ⟨_, rfl⟩
  have hxF : xs = (List.range n).map F := by rw [hF, HLL.out.2.2.1]; exact (list_of_fn xs).symm
  have HFn : Hid (∀ k, k < n → 0 ≤ (F k).n ∧ (F k).n ≤ 60) := Lib.hid fun k hk => by
    refine HLL.out.2.1 _ ?_
    rw [hxF]; exact List.mem_map.2 ⟨k, List.mem_range.2 hk, rfl⟩
  rw [hxF] at h7
  have H7 := Lib.hid h7
  have HX := Lib.hid hxF
  clear h6 h7 hF hxF HSR HS2 HVL HV1 HZ
  go_upto_block 0 with (fail)
  go_cut [13] from 37 (fun _ wx => Sat w wx (sep (osl 57 19 a6 n c6 (acs ((List.range n).map (mixK s n F)))) (sep (kn J) emp)))
  case first =>
    as_aux_lemma =>
    /-DEV1-/
    go_wp2
    go_loopw [13] (fun iv wr => ∃ i : Nat, iv = .int .i64 i ∧ i ≤ n ∧ Sat w wr (sep (osl 57 19 a6 n c6 (acs ((List.range n).map (mixK s i F)))) (sep (kn J) emp))) (fun iv _ => n - (intOf iv).toNat)
    case atStart => exact ⟨0, rfl, by omega, by rw [mixK_zero]; exact H7.out⟩
    case round =>
      obtain ⟨i, rfl, hi, hS⟩ := hrel
      by_cases hlt : i < n
      · have hltz : (i : Int) < (n : Int) := by omega
        obtain ⟨g, tl, rfl, HCC6, hS1⟩ := oslF_arow (by omega) hS
        have hd := hS1.drew
        obtain ⟨wd, hwd⟩ : ∃ wd, wd = wr.drew := ⟨_, rfl⟩
        rw [← hwd] at hd
        obtain ⟨xn, hxn⟩ : ∃ z, z = (F i).n := ⟨_, rfl⟩
        have hmi : mixK s i F i = F i := by unfold mixK; rw [if_neg (by omega)]
        have c2' : wd.cell? ⟨g, i * 19 + 2, none⟩ = some (.int .i64 xn) := by
          have := arow_cellz hd i hlt 2 (by omega)
          rw [hmi] at this; rw [hxn]; exact this
        have bn : 0 ≤ xn ∧ xn ≤ 60 := by rw [hxn]; exact HFn.out i hlt
        have hwr : IntKind.i64.wrap (xn + (s : Int)) = xn + (s : Int) := IntWalk.i64_in _ (by omega)
        have u2 : wd.frozen? ⟨g, i * 19 + 2, none⟩ = false := Sat.unfrozen hd _
        have h8 := arow_setz hd i hlt 2 (by omega) (.int .i64 (xn + (s : Int))) (shK s (F i)) (by rw [hmi, cells_shK, hxn])
        obtain ⟨w8, hw8⟩ : ∃ w8, w8 = wd.setCell ⟨g, i * 19 + 2, none⟩ (.int .i64 (xn + (s : Int))) := ⟨_, rfl⟩
        rw [← hw8] at h8
        have h9 : Sat w w8 (sep (osl 57 19 (some ⟨g, 0, none⟩) n c6 (acs ((List.range n).map (mixK s (i + 1) F)))) (sep (kn J) emp)) := by
          refine arow_osl HCC6.out.1 HCC6.out.2.1 HCC6.out.2.2 (arow_cong (fun k hk => ?_) h8)
          unfold setA mixK
          by_cases e : k = i
          · subst e; rw [if_pos rfl, if_pos (by omega)]
          · rw [if_neg e]
            by_cases e' : k < i
            · rw [if_pos e', if_pos (by omega)]
            · rw [if_neg e', if_neg (by omega)]
        have HW8 := Lib.hid hw8
        have H9 := Lib.hid h9
        have HWD := Lib.hid hwd
        clear hS hS1 hd hwd hxn hmi h8 hw8 h9 bn H7
        go_wp2_with fail
        refine wp_region_canon rfl (fun w' => w'.cell? ⟨g, i * 19 + 2, none⟩ = some (.int .i64 xn)) [(0, .p), (1, .p), (2, .p), (3, .p), (4, .p), (5, .p), (6, .s), (7, .p), (8, .e true), (9, .p), (10, .p), (11, .p), (12, .e false)] (by kernel_rfl) ?_
        rw [← HWD.out]
        have hS0 : wd.cell? ⟨g, i * 19 + 2, none⟩ = some (.int .i64 xn) := c2'
        (repeat ((first | (refine C_p (v := ?_) rfl rfl (fun w' => ?_) ?_; rotate_left; (go_simp; with_reducible rfl)) | (refine C_s (v := ?_) rfl rfl hS0 (fun w' hS => ?_) ?_; rotate_left; ((try dsimp only at hS); go_simp; with_reducible rfl)) | (refine C_t (v := ?_) rfl rfl ?_ ?_; rotate_left; (go_simp; with_reducible rfl)) | (refine C_po rfl rfl ?_) | (refine C_so rfl rfl hS0 ?_) | (refine C_to rfl rfl ?_)); simp only [Act.put, List.setIfInBounds_toArray, List.set_cons_zero, List.set_cons_succ]))
        (refine C_e rfl rfl (fun K hK => ?_); go_simp)
        refine (HDD.out _).mono ?_
        rintro e w9 ⟨rfl, rfl⟩
        (refine hK _ _ (fun _ => hS0) ?_; clear hK K; (try simp only [Act.put, List.setIfInBounds_toArray, List.set_cons_zero, List.set_cons_succ]))
        (repeat ((first | (refine C_p (v := ?_) rfl rfl (fun w' => ?_) ?_; rotate_left; (go_simp; with_reducible rfl)) | (refine C_s (v := ?_) rfl rfl hS0 (fun w' hS => ?_) ?_; rotate_left; ((try dsimp only at hS); go_simp; with_reducible rfl)) | (refine C_t (v := ?_) rfl rfl ?_ ?_; rotate_left; (go_simp; with_reducible rfl)) | (refine C_po rfl rfl ?_) | (refine C_so rfl rfl hS0 ?_) | (refine C_to rfl rfl ?_)); simp only [Act.put, List.setIfInBounds_toArray, List.set_cons_zero, List.set_cons_succ]))
        (refine C_e rfl rfl (fun K hK => ?_); go_simp)
        rw [← HW8.out]
        (refine hK _ _ (fun h => by cases h) ?_; clear hK K; (try simp only [Act.put, List.setIfInBounds_toArray, List.set_cons_zero, List.set_cons_succ]))
        refine C_nil ?_
        clear c2' u2 hwr
        go_wp2
        go_roundw
        case rel => exact ⟨i + 1, by go_num, by omega, H9.out⟩
        case measure => simp [intOf]; omega
      · obtain rfl : i = n := by omega
        have HS3 := Lib.hid hS
        clear hS H7
        go_wp2
        go_meet
        case rel => exact HS3.out
    /-VED1-/
  case rest =>
    as_aux_lemma =>
    have H8 := Lib.hid hcut
    obtain ⟨f0, hf0⟩ : ∃ f0, f0 = mixK s n F := ⟨_, rfl⟩
    rw [← hf0] at H8
    have HF0 : Hid ((List.range n).map f0 = xs.map (shK s)) := Lib.hid (by rw [hf0, mixK_all, ← HX.out])
    clear hcut hf0 H7 HFn HX HDD
    go_upto_block 2 with (fail)
    go_cut [14] from 37 (fun _ wx => ∃ f : Nat → Ac, Sw 0 n f0 f ∧ Sat w wx (sep (osl 57 19 a6 n c6 (acs ((List.range n).map f))) (sep (kn J) emp)))
    case first =>
      as_aux_lemma =>
      /-DEV2-/
      go_wp2
      go_loopw [14] (fun iv wr => ∃ (i : Nat) (f : Nat → Ac), iv = .int .i64 i ∧ i ≤ 20 ∧ Sw 0 n f0 f ∧ Sat w wr (sep (osl 57 19 a6 n c6 (acs ((List.range n).map f))) (sep (kn J) emp))) (fun iv _ => 20 - (intOf iv).toNat)
      case atStart => exact ⟨0, f0, rfl, by omega, .refl, H8.out⟩
      case round =>
        obtain ⟨i, f, rfl, hi, hsw, hS⟩ := hrel
        have HSW := Lib.hid hsw
        by_cases hlt1 : i < lq
        · have hlt1z : (i : Int) < (lq : Int) := by omega
          by_cases hlt2 : i < 20
          · have hlt2z : (i : Int) < 20 := by omega
            by_cases hlt3 : 1 < n
            · have hlt3z : 1 < (n : Int) := by omega
              obtain ⟨b, o, z, rfl, hz64, hcz⟩ := HQ.out J HLE.out wr i hS.p1.ext hlt1
              obtain ⟨k, hk⟩ : ∃ k : Nat, aroundI z ((n : Int) - 1) = (k : Int) := ⟨(aroundI z ((n : Int) - 1)).toNat, by have := aroundI_lt z ((n : Int) - 1) (by omega); omega⟩
              have hkn : k < n - 1 := by have := aroundI_lt z ((n : Int) - 1) (by omega); omega
              have hka : Hid (∀ w', Calls Tryz.prog 12 #[.int .i64 z, .int .i64 ((n : Int) - 1)] w' fun e w'' => e = .returned (.int .i64 (k : Int)) ∧ w' = w'') := Lib.hid (fun w' => by rw [← hk]; exact around_spec z ((n : Int) - 1) w' hz64.1 hz64.2 (by omega) (by omega))
              obtain ⟨g, tl, rfl, HCC6, hS1⟩ := oslF_arow (by omega) hS
              have hd := hS1.drew
              obtain ⟨wd, hwd⟩ : ∃ wd, wd = wr.drew := ⟨_, rfl⟩
              rw [← hwd] at hd
              obtain ⟨k1, hk1⟩ : ∃ k1, k1 = k + 1 := ⟨_, rfl⟩
              have l1 := arow_ld hd k (by omega)
              have l2 := arow_ld hd k1 (by omega)
              obtain ⟨w4, w5, s1, s2, h5⟩ := arow_swap hd k k1 (by omega) (by omega)
              have h6 := arow_osl HCC6.out.1 HCC6.out.2.1 HCC6.out.2.2 h5
              have ewk : IntKind.i64.wrap ((k : Int) + 1) = (k1 : Int) := by rw [IntWalk.i64_in _ (by omega)]; omega
              have jk : (k : Int) < (n : Int) := by omega
              have jk1 : (k1 : Int) < (n : Int) := by omega
              have HWD := Lib.hid hwd
              have H6 := Lib.hid h6
              have HK := Lib.hid (And.intro hk1 hkn)
              clear hd hwd hS hS1 hk hkn hz64 h5 h6 hk1 H8
              go_upto_region 10 with (fail)
              go_wp2_with fail
              refine (hka.out _).mono ?_
              rintro e w9 ⟨rfl, rfl⟩
              clear hcz
              go_upto_region 11 with (fail)
              refine wp_region_canon rfl (fun _ => True) [(0, .p), (1, .p), (2, .p), (3, .p), (4, .p), (5, .p), (6, .p), (7, .p), (8, .p), (9, .t), (10, .p), (11, .p), (12, .p), (13, .t), (14, .p), (15, .e false), (16, .p), (17, .e false)] (by kernel_rfl) ?_
              have hS0 : True := trivial
              rw [← HWD.out]
              (repeat ((first | (refine C_p (v := ?_) rfl rfl (fun w' => ?_) ?_; rotate_left; (go_simp; with_reducible rfl)) | (refine C_s (v := ?_) rfl rfl hS0 (fun w' hS => ?_) ?_; rotate_left; ((try dsimp only at hS); go_simp; with_reducible rfl)) | (refine C_t (v := ?_) rfl rfl ?_ ?_; rotate_left; (go_simp; with_reducible rfl)) | (refine C_po rfl rfl ?_) | (refine C_so rfl rfl hS0 ?_) | (refine C_to rfl rfl ?_)); simp only [Act.put, List.setIfInBounds_toArray, List.set_cons_zero, List.set_cons_succ]))
              (refine C_e rfl rfl (fun K hK => ?_); go_simp)
              (refine hK _ _ (fun h => by cases h) ?_; clear hK K; (try simp only [Act.put, List.setIfInBounds_toArray, List.set_cons_zero, List.set_cons_succ]))
              (repeat ((first | (refine C_p (v := ?_) rfl rfl (fun w' => ?_) ?_; rotate_left; (go_simp; with_reducible rfl)) | (refine C_s (v := ?_) rfl rfl hS0 (fun w' hS => ?_) ?_; rotate_left; ((try dsimp only at hS); go_simp; with_reducible rfl)) | (refine C_t (v := ?_) rfl rfl ?_ ?_; rotate_left; (go_simp; with_reducible rfl)) | (refine C_po rfl rfl ?_) | (refine C_so rfl rfl hS0 ?_) | (refine C_to rfl rfl ?_)); simp only [Act.put, List.setIfInBounds_toArray, List.set_cons_zero, List.set_cons_succ]))
              (refine C_e rfl rfl (fun K hK => ?_); go_simp)
              (refine hK _ _ (fun h => by cases h) ?_; clear hK K; (try simp only [Act.put, List.setIfInBounds_toArray, List.set_cons_zero, List.set_cons_succ]))
              refine C_nil ?_
              clear l1 l2 s1 s2 ewk
              go_wp2
              go_roundw
              case rel =>
                obtain ⟨e1, e2⟩ := HK.out
                exact ⟨i + 1, _, by go_num, by omega, .step _ _ _ HSW.out (by omega) (by omega) (by omega) (by omega), H6.out⟩
              case measure => simp [intOf]; omega
            · have hlt3z : ¬ 1 < (n : Int) := by omega
              have HS3 := Lib.hid hS
              clear hS H8 hsw
              go_wp2
              go_meet
              case rel => exact ⟨f, HSW.out, HS3.out⟩
          · have hlt2z : ¬ (i : Int) < 20 := by omega
            have HS3 := Lib.hid hS
            clear hS H8 hsw
            go_wp2
            go_meet
            case rel => exact ⟨f, HSW.out, HS3.out⟩
        · have hlt1z : ¬ (i : Int) < (lq : Int) := by omega
          have HS3 := Lib.hid hS
          clear hS H8 hsw
          go_wp2
          go_meet
          case rel => exact ⟨f, HSW.out, HS3.out⟩
      /-VED2-/
    case rest =>
      as_aux_lemma =>
      /-DEV3-/
      obtain ⟨f, hsw, h9⟩ := hcut
      have hp : ((List.range n).map f).Perm (xs.map (shK s)) := by rw [← HF0.out]; exact hsw.perm
      obtain ⟨ys, hys⟩ : ∃ ys, ys = (List.range n).map f := ⟨_, rfl⟩
      rw [← hys] at hp h9
      obtain ⟨J2, hle2, hv2, h10⟩ := acts_settle (show n = ys.length by rw [hys]; simp) h9
      have HT : Hid (sortK ys = (sortK xs).map (shK s)) := Lib.hid (sortK_sh s hp HLL.out.1.2.2.1.key)
      have HO1 := Lib.hid (HLL.out.1.2.2.1.ok HLL.out.1.2.2.2)
      have HO2 := Lib.hid ((HLL.out.1.2.2.1.sh s hp).ok (by rw [hp.length_eq, List.length_map]; exact HLL.out.1.2.2.2))
      obtain ⟨u1, hu1⟩ : ∃ u, u = Value.slice a n c := ⟨_, rfl⟩
      obtain ⟨u2, hu2⟩ : ∃ u, u = Value.slice a6 n c6 := ⟨_, rfl⟩
      have HV1 : Hid (ActL J2 u1 xs) := Lib.hid (by rw [hu1]; exact HLL.out.1.2.1.mono hle2)
      have HV2 : Hid (ActL J2 u2 ys) := Lib.hid (by rw [hu2]; exact hv2)
      rw [← hu1, ← hu2]
      have H10 := Lib.hid h10
      clear hsw h9 hp hys hle2 hv2 h10 hu1 hu2 H8 HF0 HLL HQ HLE
      go_upto_region 12 with (fail)
      obtain ⟨FB, hFB⟩ : ∃ z, z = wc.heap.size := ⟨_, rfl⟩
      have h11 := H10.out.alloc (.cells #[.int .i64 2, .int .i64 0, .int .i64 5] 3)
      obtain ⟨w11, hw11⟩ : ∃ z, z = wc.alloc (.cells #[.int .i64 2, .int .i64 0, .int .i64 5] 3) := ⟨_, rfl⟩
      rw [← hFB, ← hw11] at h11
      have HW11 := Lib.hid (And.intro hFB hw11)
      clear hFB hw11
      go_upto_region 13 with (fail)
      rw [← HW11.out.1, ← HW11.out.2]
      go_wp2_with fail
      refine (HA.out _).mono ?_
      rintro e w12 ⟨rfl, rfl⟩
      go_wp2_with fail
      refine (HB.out _).mono ?_
      rintro e w12 ⟨rfl, rfl⟩
      obtain ⟨DB, hDB⟩ : ∃ z, z = w11.heap.size := ⟨_, rfl⟩
      have h12 := h11.alloc (.cells #[.int .i64 (95 + (x1 : Int)), .int .i64 (36000 + (x2 : Int)), .int .i64 131072] 3)
      obtain ⟨w12, hw12⟩ : ∃ z, z = w11.alloc (.cells #[.int .i64 (95 + (x1 : Int)), .int .i64 (36000 + (x2 : Int)), .int .i64 131072] 3) := ⟨_, rfl⟩
      rw [← hDB, ← hw12] at h12
      have HW12 := Lib.hid (And.intro hDB hw12)
      have H12 := Lib.hid h12
      clear hDB hw12 h11 h12 H10
      go_upto_region 14 with (fail)
      rw [← HW12.out.1, ← HW12.out.2]
      go_wp2_with fail
      go_loopw [18] (fun iv wr => ∃ (i : Nat) (J3 : Mem), iv = .int .i64 i ∧ i ≤ 9 ∧ Mem.le J2 J3 ∧ Sat w wr (sep (kn J3) (sep (blk DB (.cells #[.int .i64 (95 + (x1 : Int)), .int .i64 (36000 + (x2 : Int)), .int .i64 131072] 3 (0, 0))) (sep (blk FB (.cells #[.int .i64 2, .int .i64 0, .int .i64 5] 3 (0, 0))) emp)))) (fun iv _ => 9 - (intOf iv).toNat)
      case atStart => exact ⟨0, J2, rfl, by omega, Mem.le_refl _, H12.out.p2⟩
      case round =>
        obtain ⟨i, J3, rfl, hi, hle3, hS⟩ := hrel
        by_cases hlt : i < 9
        · have hltz : (i : Int) < 9 := by omega
          obtain ⟨r3, hr3⟩ : ∃ z, z = i % 3 := ⟨_, rfl⟩
          obtain ⟨q3, hq3⟩ : ∃ z, z = i / 3 := ⟨_, rfl⟩
          obtain ⟨r4, hr4⟩ : ∃ z, z = i % 4 := ⟨_, rfl⟩
          have e1 : Int.tmod (i : Int) 3 = (r3 : Int) := by rw [hr3]; rfl
          have e2 : Int.tdiv (i : Int) 3 = (q3 : Int) := by rw [hq3]; rfl
          have e3 : Int.tmod (i : Int) 4 = (r4 : Int) := by rw [hr4]; rfl
          have b1 : r3 = 0 ∨ r3 = 1 ∨ r3 = 2 := by omega
          have b2 : q3 = 0 ∨ q3 = 1 ∨ q3 = 2 := by omega
          have b3 : (r4 : Int) < 4 := by omega
          have b4 : (r3 : Int) < 3 := by omega
          have b5 : (q3 : Int) < 3 := by omega
          obtain ⟨fz, hcf⟩ : ∃ fz : Int, wr.cell? ⟨FB, r3, none⟩ = some (.int .i64 fz) := by
            have hh := hS.p2
            rcases b1 with rfl | rfl | rfl
            · exact ⟨_, hh.cell 0⟩
            · exact ⟨_, hh.cell 1⟩
            · exact ⟨_, hh.cell 2⟩
          obtain ⟨dz, hcd⟩ : ∃ dz : Int, wr.cell? ⟨DB, q3, none⟩ = some (.int .i64 dz) := by
            have hh := hS.p1
            rcases b2 with rfl | rfl | rfl
            · exact ⟨_, hh.cell 0⟩
            · exact ⟨_, hh.cell 1⟩
            · exact ⟨_, hh.cell 2⟩
          obtain ⟨RS, hRS⟩ : ∃ z, z = sep (blk DB (.cells #[.int .i64 (95 + (x1 : Int)), .int .i64 (36000 + (x2 : Int)), .int .i64 131072] 3 (0, 0))) (sep (blk FB (.cells #[.int .i64 2, .int .i64 0, .int .i64 5] 3 (0, 0))) emp) := ⟨_, rfl⟩
          rw [← hRS] at hS
          have HRS := Lib.hid hRS
          have HS := Lib.hid hS
          have HI := Lib.hid (And.intro hi (And.intro hlt hle3))
          clear hRS hS hi hlt hle3 hr3 hq3 hr4 b1 b2 H12
          go_upto_region 19 with (fail)
          clear hcf hcd e1 e2 b4 b5
          have HC1 := Lib.hid (owners_any fz dz u1 xs HO1.out (HV1.out.mono HI.out.2.2) HS.out)
          obtain ⟨er, her⟩ : ∃ er, er = titleErr fz dz (sortK xs) := ⟨_, rfl⟩
          rw [← her] at HC1
          have HER := Lib.hid her
          clear her
          go_wp2_with fail
          refine HC1.out.mono ?_
          rintro e w13 ⟨own, oa, oc, J4, rfl, hown, hle4, h13⟩
          obtain ⟨on, hon⟩ : ∃ z, z = own.length := ⟨_, rfl⟩
          rw [← hon] at h13 ⊢
          have hon2 : on ≤ 20000 := by rw [hon]; exact ownR_len HO1.out hown
          have H13 := Lib.hid h13.p1
          have HOWN := Lib.hid hown
          have HON := Lib.hid (And.intro hon (And.intro hon2 (Mem.le_trans HI.out.2.2 hle4)))
          clear h13 hown hle4 hon hon2 HC1 HS
          have HC2 := owners_any fz dz u2 ys HO2.out (HV2.out.mono HON.out.2.2) H13.out
          rw [terr_sh HT.out, ← HER.out] at HC2
          have HC := Lib.hid HC2
          clear HC2
          go_wp2_with fail
          refine HC.out.mono ?_
          rintro e w14 ⟨own', ob, od, J5, rfl, hown2, hle5, h14⟩
          obtain rfl := ownR_sh HT.out HOWN.out hown2
          rw [← HON.out.1] at h14 ⊢
          have HL5 := Lib.hid (Mem.le_trans HON.out.2.2 hle5)
          have H14 := Lib.hid h14.p1
          clear h14 hown2 hle5 HC H13 HOWN
          obtain ⟨li, hli⟩ : ∃ z, z = licR fz dz xs := ⟨_, rfl⟩
          obtain ⟨ln, hln⟩ : ∃ z, z = li.length := ⟨_, rfl⟩
          have hln2 : ln ≤ 20000 := by rw [hln, hli]; have := licR_len fz dz xs; have := HO1.out.len; omega
          have HC3 := licences_any fz dz u1 xs HO1.out (HV1.out.mono HL5.out) H14.out
          rw [← hli, ← hln, ← HER.out] at HC3
          have HC := Lib.hid HC3
          have HLI := Lib.hid (And.intro hli (And.intro hln hln2))
          clear HC3 hli hln hln2
          go_wp2_with fail
          refine HC.out.mono ?_
          rintro e w15 ⟨la, lc, J6, rfl, hle6, h15⟩
          have HL6 := Lib.hid (Mem.le_trans HL5.out hle6)
          have H15 := Lib.hid h15.p1
          clear h15 hle6 HC H14
          have HC4 := licences_any fz dz u2 ys HO2.out (HV2.out.mono HL6.out) H15.out
          rw [terr_sh HT.out, licR_sh HT.out, ← HLI.out.1, ← HLI.out.2.1, ← HER.out] at HC4
          have HC := Lib.hid HC4
          clear HC4
          go_wp2_with fail
          refine HC.out.mono ?_
          rintro e w16 ⟨lb, ld, J7, rfl, hle7, h16⟩
          have HL7 := Lib.hid (Mem.le_trans HL6.out hle7)
          have H16 := Lib.hid h16.p1
          clear h16 hle7 HC H15
          obtain ⟨fl, hfl⟩ : ∃ z, z = failR fz xs := ⟨_, rfl⟩
          obtain ⟨fe, hfe⟩ : ∃ z, z = titleErr fz 131072 (sortK xs) := ⟨_, rfl⟩
          have HC5 := failed_any fz u1 xs HO1.out (HV1.out.mono HL7.out) H16.out
          rw [← hfl, ← hfe] at HC5
          have HC := Lib.hid HC5
          have HFL := Lib.hid (And.intro hfl hfe)
          clear HC5 hfl hfe
          go_wp2_with fail
          refine HC.out.mono ?_
          rintro e w17 ⟨fa, fc, J8, rfl, hle8, h17⟩
          have HL8 := Lib.hid (Mem.le_trans HL7.out hle8)
          have H17 := Lib.hid h17.p1
          clear h17 hle8 HC H16
          have HC6 := failed_any fz u2 ys HO2.out (HV2.out.mono HL8.out) H17.out
          rw [terr_sh HT.out, failR_sh HT.out, ← HFL.out.1, ← HFL.out.2] at HC6
          have HC := Lib.hid HC6
          clear HC6
          go_wp2_with fail
          refine HC.out.mono ?_
          rintro e w18 ⟨fb, fd, J9, rfl, hle9, h18⟩
          have HL9 := Lib.hid (Mem.le_trans HL8.out hle9)
          have H18 := Lib.hid h18.p1
          clear h18 hle9 HC H17
          obtain ⟨pz, hpz⟩ : ∃ z : Int, z = 1 + (r4 : Int) := ⟨_, rfl⟩
          have epz : 1 + (r4 : Int) = pz := hpz.symm
          obtain ⟨cr, hcr⟩ : ∃ z, z = chnR fz dz pz xs := ⟨_, rfl⟩
          obtain ⟨ce, hce⟩ : ∃ z, z = chnE fz dz pz xs := ⟨_, rfl⟩
          have HC7 := chain_any fz dz pz u1 xs HO1.out (HV1.out.mono HL9.out) H18.out
          rw [← hcr, ← hce] at HC7
          have HC := Lib.hid HC7
          have HCR := Lib.hid (And.intro hcr hce)
          clear HC7 hcr hce hpz
          go_upto_region 25 with (fail)
          go_wp2_with fail
          refine HC.out.mono ?_
          rintro e w19 ⟨ca, cc, J10, rfl, hle10, h19⟩
          have HL10 := Lib.hid (Mem.le_trans HL9.out hle10)
          have H19 := Lib.hid h19.p1
          clear h19 hle10 HC H18
          have HC8 := chain_any fz dz pz u2 ys HO2.out (HV2.out.mono HL10.out) H19.out
          rw [(chn_sh HT.out fz dz pz).1, (chn_sh HT.out fz dz pz).2, ← HCR.out.1, ← HCR.out.2] at HC8
          have HC := Lib.hid HC8
          clear HC8
          go_upto_region 26 with (fail)
          go_wp2_with fail
          refine HC.out.mono ?_
          rintro e w20 ⟨cb, cd, J11, rfl, hle11, h20⟩
          have HL11 := Lib.hid (Mem.le_trans HL10.out hle11)
          have HQ1 := Lib.hid (plain_spec oa on oc own HON.out.1.symm HON.out.2.1 h20.p8)
          clear h20 hle11 HC H19 epz e3 b3
          go_upto_region 27 with (fail)
          go_wp2_with fail
          refine HQ1.out.mono ?_
          rintro e w21 ⟨pa, pc, rfl, h21⟩
          have HQ2 := Lib.hid (plain_spec ob on od own HON.out.1.symm HON.out.2.1 h21.p1.forget_osl.p8)
          clear h21 HQ1
          go_wp2_with fail
          refine HQ2.out.mono ?_
          rintro e w22 ⟨pb, pd, rfl, h22⟩
          have HQ3 := sameOwners_spec pa pb on on pc pd own own HON.out.1.symm HON.out.1.symm HON.out.2.1 HON.out.2.1 h22.p1.forget_osl.p1
          rw [decide_eq_true (rfl : own = own)] at HQ3
          have HQ := Lib.hid HQ3
          clear h22 HQ2 HQ3
          go_wp2_with fail
          refine HQ.out.mono ?_
          rintro e w23 ⟨rfl, h23⟩
          have HQ4 := Lib.hid (held_spec la ln lc li HLI.out.2.1.symm HLI.out.2.2 h23.forget_osl.forget_osl.p6)
          clear h23 HQ
          go_wp2_with fail
          refine HQ4.out.mono ?_
          rintro e w24 ⟨ha, hc, rfl, h24⟩
          have HQ5 := Lib.hid (held_spec lb ln ld li HLI.out.2.1.symm HLI.out.2.2 h24.p1.forget_osl.p6)
          clear h24 HQ4
          go_wp2_with fail
          refine HQ5.out.mono ?_
          rintro e w25 ⟨hb, hd, rfl, h25⟩
          have HQ6 := sameHeld_spec ha hb ln ln hc hd li li HLI.out.2.1.symm HLI.out.2.1.symm HLI.out.2.2 HLI.out.2.2 h25.p1.forget_osl.p1
          rw [decide_eq_true (rfl : li = li)] at HQ6
          have HQ := Lib.hid HQ6
          clear h25 HQ5 HQ6
          go_wp2_with fail
          refine HQ.out.mono ?_
          rintro e w26 ⟨rfl, h26⟩
          have HQ7 := sameIntsT_sat fa fb fc fd fl fl (h26.forget_osl.forget_osl.p4.p4.p1)
          rw [decide_eq_true (rfl : fl = fl)] at HQ7
          have HQ8 := Lib.hid HQ7
          clear h26 HQ HQ7
          go_wp2_with fail
          refine HQ8.out.mono ?_
          rintro e w27 ⟨rfl, h27⟩
          have HQ9 := sameIntsT_sat ca cb cc cd cr cr (h27.p2)
          rw [decide_eq_true (rfl : cr = cr)] at HQ9
          have HQ := Lib.hid HQ9
          clear h27 HQ8 HQ9
          go_wp2_with fail
          refine HQ.out.mono ?_
          rintro e w28 ⟨rfl, h28⟩
          have H28 := Lib.hid h28
          clear h28 HQ
          go_wp2
          go_roundw
          case rel => exact ⟨i + 1, J11, by go_num, by have := HI.out; omega, HL11.out, by rw [← HRS.out]; exact H28.out⟩
          case measure => simp [intOf]; have := HI.out; omega
        · have hltz : ¬ (i : Int) < 9 := by omega
          have HLV := Lib.hid (lives25_spec hS)
          clear hlt hi hS H12
          go_wp2_with fail
          refine HLV.out.mono ?_
          rintro e w13 ⟨rfl, h13⟩
          have HBL := Lib.hid h13.below
          clear h13 HLV
          go_wp2
          go_ret
          exact ⟨rfl, HBL.out⟩
      /-VED3-/
end Go.Proofs.YtfapiopnjllnnaaGreatDoor
