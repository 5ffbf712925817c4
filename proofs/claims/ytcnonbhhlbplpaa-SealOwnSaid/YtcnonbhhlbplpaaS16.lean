/- SealBinds, the walk. -/
import Derived.Test.YtcnonbhhlbplpaaS15
namespace Go.Proofs.Ytcnonbhhlbplpaa
open Go.RowKit PA
theorem osl_learn {W w : World} {A : Assn} {I : Mem} {a : Option Addr} {l c : Nat} {gb : List UInt8} (h : Sat W w (sep (osl 5 1 a l c (gb.map bv)) (sep (kn I) A))) (hl : l = gb.length) : ∃ J, Mem.le I J ∧ rBytes.rel J [.slice a l c] gb ∧ Sat W w (sep (kn J) A) := by
  subst hl
  exact h.bytes_of_osl.2.learn
set_option maxRecDepth 100000 in
set_option maxHeartbeats 16000000 in
theorem sealBinds_walk (a0 : Option Addr) (len0 cap0 : Nat) (z0 : List Int) (a1 : Int) (a2 : Option Addr) (len2 cap2 : Nat) (z2 : List Int) (a3 : Int) (a4i : Int) (a5 : Int) (w : World)
    (w0 : IsArgR w a0 len0 cap0 z0) (w1 : (Lit.int .u64 a1).wf = true) (w2 : IsArgR w a2 len2 cap2 z2) (w3 : (Lit.int .u64 a3).wf = true) (w4 : (Lit.int .i64 a4i).wf = true) (w5 : (Lit.int .u8 a5).wf = true) :
    Calls Try.prog 6 #[.slice a0 len0 cap0, .int .u64 a1, .slice a2 len2 cap2, .int .u64 a3, .int .i64 a4i, .int .u8 a5] w fun e w' => e = .returned (.bool true) ∧ Below w.heap.size w w' := by
  obtain ⟨b, hn0, hbl, hb⟩ := argR w0
  obtain ⟨o, hlo, hol, ho⟩ := argR w2
  obtain ⟨s, rfl, hsb⟩ := u64_nat w1
  obtain ⟨ch, rfl, hchb⟩ := u64_nat w3
  obtain ⟨y, rfl⟩ : ∃ y : UInt8, a5 = (y.toNat : Int) := by
    have : 0 ≤ a5 ∧ a5 ≤ 255 := bounds_u8 w5
    exact ⟨UInt8.ofNat a5.toNat, by simp; omega⟩
  obtain ⟨n0, rfl⟩ : ∃ n0, n0 = len0 := ⟨_, rfl⟩
  have HA4 := Lib.hid (i64_of_wf w4)
  obtain ⟨hr1, hsw, hsrc⟩ := rel_src' hb
  have hnil : a0 = none → n0 = 0 := fun e => by have := hsw.2.2 e; have := hsw.1; omega
  have HNIL := Lib.hid hnil
  have HSRC := Lib.hid hsrc
  have HSW := Lib.hid hsw
  have HN0 := Lib.hid hn0
  have HR := Lib.hid (show n0 ≤ 140737488351232 by omega)
  have HOL := Lib.hid hol
  have HB := Lib.hid hb
  have HO := Lib.hid ho
  have HSB := Lib.hid hsb
  have HCHB := Lib.hid hchb
  have HC := Lib.hid (scommit_spec (.slice a0 n0 cap0) b s (Sat.startKn w) hb (by omega))
  obtain ⟨X, hX⟩ : ∃ X, X = commitN b s := ⟨_, rfl⟩
  rw [← hX] at HC
  have HX := Lib.hid hX
  obtain ⟨hbB, hhb⟩ : ∃ h, h = bytesN sealedL b := ⟨_, rfl⟩
  have HHB := Lib.hid hhb
  obtain ⟨s2, hs2⟩ : ∃ s2, s2 = (s + ch) % 18446744073709551616 := ⟨_, rfl⟩
  have HS2 := Lib.hid hs2
  have hws : IntKind.u64.wrap ((s : Int) + (ch : Int)) = ((s2 : Nat) : Int) := by rw [IntKind.wrap_u64, hs2]; omega
  obtain ⟨z, hz⟩ : ∃ z, z = decide (ch = 0) := ⟨_, rfl⟩
  have HZ := Lib.hid hz
  have hz0 : ((ch : Int) == 0) = z := by
    rw [hz]
    by_cases e : ch = 0
    · subst e; simp
    · have : ¬ (ch : Int) = 0 := by omega
      simp [e]
  have hnI : (n0 : Int) ≤ 140737488351232 := by omega
  clear w0 w1 w2 w3 w4 w5 hbl hlo hol hb ho hsb hchb hr1 hsw hsrc hnil hn0 hX hhb hs2 hz
  go_enter Try.func6, Try.ntmps6
  go_wp2_with fail
  refine HC.out.mono ?_
  rintro e w1 ⟨rfl, h1⟩
  clear HC
  have hS2 := (h1.alloc (.cells #[] 5)).osl_mk 0 0 1 [] rfl (by omega) (by unfold maxLen; omega) rfl rfl
  have HS2b := Lib.hid (HSRC.out _ hS2.p1.ext)
  clear h1
  go_wp2_with (at_builtin; refine wpl_append_osl rfl (.tmp 20) (.tmp 21) 29 rfl 5 1 1 (.int .u8 0) Try.underlying29 infoU8L rfl rfl hS2 rfl (b.map bv) (by rw [List.length_map, HN0.out]; simp) HNIL.out HS2b.out (bv_one b) (by have := HR.out; omega) (by have := HR.out; unfold maxLen; omega) ?_)
  intro ab cb w2 h3
  clear hS2 HS2b
  by_cases hpos : 0 < n0
  · have hposI : (0 : Int) < (n0 : Int) := by omega
    have har := around_spec a4i (n0 : Int) w2 HA4.out.1 HA4.out.2 (by omega) (by omega)
    have hb1 := aroundI_lt a4i (n0 : Int) (by omega)
    obtain ⟨j, hj⟩ : ∃ j : Nat, (j : Int) = aroundI a4i (n0 : Int) := ⟨(aroundI a4i (n0 : Int)).toNat, by omega⟩
    rw [← hj] at har hb1
    have hjn : j < n0 := by omega
    have hjI : (j : Int) < (n0 : Int) := hb1.2
    obtain ⟨g, rfl, hcg, hfg, h4⟩ := h3.osl_set j (by rw [List.length_map, ← HN0.out]; exact hjn) (.int .u8 (y.toNat : Int))
    obtain ⟨bent, hbent⟩ : ∃ bent, bent = b.set j y := ⟨_, rfl⟩
    have hbl2 : bent.length = n0 := by rw [hbent, List.length_set, ← HN0.out]
    have hset : (b.map bv).set j (.int .u8 (y.toNat : Int)) = bent.map bv := by rw [hbent, List.map_set]; rfl
    rw [hset] at h4
    obtain ⟨cx, hcx⟩ : ∃ cx, cx = (b.map bv)[j]'(by rw [List.length_map, ← HN0.out]; exact hjn) := ⟨_, rfl⟩
    rw [← hcx] at hcg
    have HAR := Lib.hid har
    obtain ⟨ab, hab⟩ : ∃ ab : Option Addr, ab = some ⟨g, 0, none⟩ := ⟨_, rfl⟩
    have h5 := h4
    rw [← hab] at h5
    have HAB := Lib.hid hab
    obtain ⟨w2', hw2⟩ : ∃ w2', w2' = w2.setCell ⟨g, j, none⟩ (.int .u8 (y.toNat : Int)) := ⟨_, rfl⟩
    rw [← hw2] at h5
    have HW2 := Lib.hid hw2
    clear h3 h4 har hb1 hj hset hcx hab hw2
    go_wp2_with fail
    refine HAR.out.mono ?_
    rintro e w3 ⟨rfl, rfl⟩
    clear HAR
    go_upto_region 5 with (fail)
    rw [← HAB.out, ← HW2.out]
    clear hcg hfg
    have HBENT := Lib.hid hbent
    have HBL2 := Lib.hid hbl2
    obtain ⟨J1, hJ1, hr1, h6⟩ := osl_learn h5 (by rw [hbl2])
    have HR1 := Lib.hid hr1
    have HJ1 := Lib.hid hJ1
    have hS3 := (h6.alloc (.cells #[] 5)).osl_mk 0 0 1 [] rfl (by omega) (by unfold maxLen; omega) rfl rfl
    have hsrc3 := HSRC.out _ (fun b o hb => hS3.p1.ext b o (HJ1.out b o hb))
    have HS3 := Lib.hid hsrc3
    clear h5 h6 hbent hbl2 hr1 hJ1 hsrc3
    go_wp2_with (at_builtin; refine wpl_append_osl rfl (.tmp 35) (.tmp 36) 29 rfl 5 1 1 (.int .u8 0) Try.underlying29 infoU8L rfl rfl hS3 rfl (b.map bv) (by rw [List.length_map, HN0.out]; simp) HNIL.out HS3.out (bv_one b) (by have := HR.out; omega) (by have := HR.out; unfold maxLen; omega) ?_)
    intro a3 c3 w3 h7
    have h8 := h7.alloc0 (.cells #[.int .u8 (y.toNat : Int)] 5)
    clear hS3 HS3 h7
    go_wp2_with (at_builtin; refine wpl_append_osl rfl (.tmp 37) (.tmp 39) 29 rfl 5 1 1 (.int .u8 0) Try.underlying29 infoU8L rfl rfl h8 rfl [.int .u8 (y.toNat : Int)] rfl (by simp) (by intro b hb; cases hb; exact new_src _ [_] _) (by simp [Value.oneCell']) (by have := HR.out; omega) (by have := HR.out; unfold maxLen; omega) ?_)
    intro a4 c4 w4 h9
    obtain ⟨J2, hJ2, hr2, h10⟩ := osl_learn (gb := b ++ [y]) (show Sat w w4 (sep (osl 5 1 a4 (n0 + 1) c4 ((b ++ [y]).map bv)) (sep (kn J1) emp)) by
      have e : (b ++ [y]).map bv = [] ++ b.map bv ++ [.int .u8 (y.toNat : Int)] := by simp [bv]
      rw [e]
      have h99 := h9
      simp only [Nat.zero_add, List.nil_append] at h99 ⊢
      exact h99) (by rw [List.length_append, ← HN0.out]; rfl)
    have HR2 := Lib.hid hr2
    have HJ2 := Lib.hid (Mem.le_trans HJ1.out hJ2)
    have HJ12 := Lib.hid hJ2
    have hn1I : (n0 : Int) + 1 ≤ 140737488351240 := by have := HR.out; omega
    have har2 := around_spec a4i ((n0 : Int) + 1) w4 HA4.out.1 HA4.out.2 (by omega) (by omega)
    have hb2 := aroundI_lt a4i ((n0 : Int) + 1) (by omega)
    obtain ⟨j2, hj2⟩ : ∃ j2 : Nat, (j2 : Int) = aroundI a4i ((n0 : Int) + 1) := ⟨(aroundI a4i ((n0 : Int) + 1)).toNat, by omega⟩
    rw [← hj2] at har2 hb2
    have hj2n : j2 ≤ n0 := by omega
    have hsl := slice_pre a0 n0 cap0 j2 (by have := HSW.out.1; omega) (by have := HSW.out.2.1; unfold maxLen at this; omega) w4
    have hr4 : rBytes.rel (wm w) [.slice a0 j2 cap0] (b.take j2) := bytes_rel.2 ⟨a0, cap0, by rw [List.length_take, ← HN0.out, Nat.min_eq_left hj2n], ⟨by rw [List.length_take, ← HN0.out, Nat.min_eq_left hj2n]; have := HSW.out.1; omega, HSW.out.2.1, HSW.out.2.2⟩, by
      obtain ⟨a', c', e, hw, hc⟩ := bytes_rel.1 HB.out
      simp only [Value.slice.injEq] at e
      obtain ⟨rfl, -, rfl⟩ := e
      rcases hc with hc | ⟨bb, oo, cs, tt, ff, h1, h2, h3⟩
      · exact .inl (by rw [List.map_eq_nil_iff] at hc ⊢; rw [hc]; simp)
      · exact .inr ⟨bb, oo, cs, tt, ff, h1, h2, fun i u hu => h3 i u (by rw [List.map_take, List.getElem?_take] at hu; split at hu; exact hu; cases hu)⟩⟩
    have HR4 := Lib.hid (rBytes.mono HJ2.out hr4)
    have HAR2 := Lib.hid har2
    have hS5 := (h10.alloc (.cells #[.slice a2 len2 cap2, .slice ab n0 cb, .slice a4 (n0 + 1) c4, .slice a0 j2 cap0] 29)).osl_mk 4 4 1 [.slice a2 len2 cap2, .slice ab n0 cb, .slice a4 (n0 + 1) c4, .slice a0 j2 cap0] rfl (by omega) (by unfold maxLen; omega) rfl rfl
    obtain ⟨J, hJ, hcs, h11⟩ := hS5.osl_settle.learn
    have HCS := Lib.hid hcs
    have HJ := Lib.hid (Mem.le_trans HJ2.out hJ)
    have HALL := Lib.hid (fun i (hi : i < 4) => (by
      match i, hi with
      | 0, _ => exact ⟨_, o, rfl, rBytes.mono HJ.out HO.out, by have := HOL.out; omega⟩
      | 1, _ => exact ⟨_, bent, rfl, rBytes.mono (Mem.le_trans HJ12.out hJ) HR1.out, by rw [HBL2.out]; have := HR.out; omega⟩
      | 2, _ => exact ⟨_, b ++ [y], rfl, rBytes.mono hJ HR2.out, by rw [List.length_append, ← HN0.out]; have := HR.out; simp; omega⟩
      | 3, _ => exact ⟨_, b.take j2, rfl, rBytes.mono hJ HR4.out, by rw [List.length_take, ← HN0.out]; have := HR.out; omega⟩ :
        ∃ v l, [Value.slice a2 len2 cap2, .slice ab n0 cb, .slice a4 (n0 + 1) c4, .slice a0 j2 cap0][i]? = some v ∧ rBytes.rel J [v] l ∧ l.length ≤ 140737488351240))
    obtain ⟨gA, hgA⟩ : ∃ g, g = w4.heap.size := ⟨_, rfl⟩
    rw [← hgA] at hcs HCS
    have HGA := Lib.hid hgA
    obtain ⟨w5, hw5⟩ : ∃ w5, w5 = w4.alloc (.cells #[.slice a2 len2 cap2, .slice ab n0 cb, .slice a4 (n0 + 1) c4, .slice a0 j2 cap0] 29) := ⟨_, rfl⟩
    rw [← hw5] at h11
    have HW5 := Lib.hid hw5
    have H11 := Lib.hid h11
    clear h8 h9 h10 hr2 hJ2 har2 hb2 hj2 hr4 hS5 hcs hJ h11 hgA hw5 hj2n
    go_wp2_with fail
    refine HAR2.out.mono ?_
    rintro e w6 ⟨rfl, rfl⟩
    clear HAR2
    go_upto_region 6 with (fail)
    rw [← HW5.out, ← HGA.out]
    go_wp2_with fail
    go_loopw [16] (fun kv wr => ∃ i : Nat, i ≤ 4 ∧ kv = .int .i64 i ∧ Sat w wr (sep (kn J) emp)) (fun kv _ => 4 - (intOf kv).toNat)
    case atStart => exact ⟨0, by omega, rfl, H11.out⟩
    case round =>
      clear H11 hsl
      obtain ⟨i, hi, rfl, hS⟩ := hrel
      by_cases hi4 : i < 4
      · obtain ⟨v, l, hv, hrv, hll⟩ := HALL.out i hi4
        obtain ⟨gg, oo, e, hcc⟩ := cells_ext HCS.out (by simp)
        cases e
        have hcv : ∀ w', Ext J w' → w'.cell? ⟨gA, i, none⟩ = some v := fun w' he => by have := hcc w' he i v hv; rwa [Nat.zero_add] at this
        have HCV := Lib.hid hcv
        have hS0 : wr.drew.cell? ⟨gA, i, none⟩ = some v := hcv wr.drew hS.drew.ext
        have hop := opens_spec X v l s hS.drew hrv hll
        have hcmp : decide (X = commitN l s) = decide (bytesN sealedL l = bytesN sealedL b) := by
          rw [HX.out]
          exact decide_eq_decide.2 (by rw [commit_hash b l s HSB.out]; exact eq_comm)
        rw [hcmp] at hop
        obtain ⟨hl, hhl⟩ : ∃ hl, hl = bytesN sealedL l := ⟨_, rfl⟩
        obtain ⟨d, hd⟩ : ∃ d, d = decide (bytesN sealedL l = bytesN sealedL b) := ⟨_, rfl⟩
        rw [← hd] at hop
        have heq : ((hl : Int) == (hbB : Int)) = d := by
          rw [hd, hhl, HHB.out]
          by_cases e : bytesN sealedL l = bytesN sealedL b
          · rw [e]; simp
          · rw [decide_eq_false e]
            exact beq_eq_false_iff_ne.2 (by omega)
        have e6 : (⟨#[115, 101, 97, 108, 101, 100]⟩ : ByteArray).data.toList = sealedL := rfl
        have HH1 := Lib.hid (fun w' (h : Sat w w' (sep (kn J) emp)) => (by
          have := hbytes_any ⟨#[115, 101, 97, 108, 101, 100]⟩ v l h hrv (by decide) hll
          rw [e6, ← hhl] at this; exact this : Calls Try.prog 23 #[.string ⟨#[115, 101, 97, 108, 101, 100]⟩, v] w' fun e w' => e = .returned (.int .u64 (hl : Nat)) ∧ Sat w w' (sep (kn J) emp)))
        have HH2 := Lib.hid (fun w' (h : Sat w w' (sep (kn J) emp)) => (by
          have := hbytes_any ⟨#[115, 101, 97, 108, 101, 100]⟩ (.slice a0 n0 cap0) b h (rBytes.mono HJ.out HB.out) (by decide) (by rw [← HN0.out]; have := HR.out; omega)
          rw [e6, ← HHB.out] at this; exact this : Calls Try.prog 23 #[.string ⟨#[115, 101, 97, 108, 101, 100]⟩, .slice a0 n0 cap0] w' fun e w' => e = .returned (.int .u64 (hbB : Nat)) ∧ Sat w w' (sep (kn J) emp)))
        have HOP := Lib.hid hop
        have HI4 := Lib.hid hi4
        have hiI : (i : Int) < 4 := by omega
        clear hv hrv hll hcc hcv hop hcmp hhl hd e6 hS hi4
        go_wp2_with fail
        refine wp_region_canon rfl (fun w' => w'.cell? ⟨gA, i, none⟩ = some v) [(0, .p), (1, .p), (2, .p), (3, .p), (4, .t), (5, .p), (7, .p), (8, .p), (9, .p), (10, .s), (12, .p), (6, .e true), (11, .e false), (13, .e false), (14, .p), (15, .p)] (by kernel_rfl) ?_
        (repeat (first | (refine C_p (v := ?_) rfl rfl (fun w' => ?_) ?_; rotate_left; (go_simp; with_reducible rfl); simp only [Act.put, List.setIfInBounds_toArray, List.set_cons_zero, List.set_cons_succ]) | (refine C_s (v := ?_) rfl rfl hS0 (fun w' hS => ?_) ?_; rotate_left; ((try dsimp only at hS); go_simp; with_reducible rfl); simp only [Act.put, List.setIfInBounds_toArray, List.set_cons_zero, List.set_cons_succ]) | (refine C_t (v := ?_) rfl rfl ?_ ?_; rotate_left; (go_simp; with_reducible rfl); simp only [Act.put, List.setIfInBounds_toArray, List.set_cons_zero, List.set_cons_succ]) | (refine C_po rfl rfl ?_; simp only [Act.put, List.setIfInBounds_toArray, List.set_cons_zero, List.set_cons_succ]) | (refine C_so rfl rfl hS0 ?_; simp only [Act.put, List.setIfInBounds_toArray, List.set_cons_zero, List.set_cons_succ]) | (refine C_to rfl rfl ?_; simp only [Act.put, List.setIfInBounds_toArray, List.set_cons_zero, List.set_cons_succ])))
        (refine C_e rfl rfl (fun K hK => ?_); go_simp)
        refine HOP.out.mono ?_
        rintro e w7 ⟨rfl, h12⟩
        have hS1 : w7.cell? ⟨gA, i, none⟩ = some v := HCV.out w7 h12.ext
        have H12 := Lib.hid h12
        clear HOP hS0 h12
        (refine hK _ _ (fun _ => hS1) ?_; clear hK K; (try simp only [Act.put, List.setIfInBounds_toArray, List.set_cons_zero, List.set_cons_succ]))
        (refine C_e rfl rfl (fun K hK => ?_); go_simp)
        refine (HH1.out _ H12.out).mono ?_
        rintro e w8 ⟨rfl, h13⟩
        have H13 := Lib.hid h13
        clear HH1 h13 H12
        (refine hK _ _ (fun h => by cases h) ?_; clear hK K; (try simp only [Act.put, List.setIfInBounds_toArray, List.set_cons_zero, List.set_cons_succ]))
        (refine C_e rfl rfl (fun K hK => ?_); go_simp)
        refine (HH2.out _ H13.out).mono ?_
        rintro e w9 ⟨rfl, h14⟩
        have H14 := Lib.hid h14
        clear HH2 h14 H13
        (refine hK _ _ (fun h => by cases h) ?_; clear hK K; (try simp only [Act.put, List.setIfInBounds_toArray, List.set_cons_zero, List.set_cons_succ]))
        (repeat (first | (refine C_p (v := ?_) rfl rfl (fun w' => ?_) ?_; rotate_left; (go_simp; with_reducible rfl); simp only [Act.put, List.setIfInBounds_toArray, List.set_cons_zero, List.set_cons_succ]) | (refine C_s (v := ?_) rfl rfl hS0 (fun w' hS => ?_) ?_; rotate_left; ((try dsimp only at hS); go_simp; with_reducible rfl); simp only [Act.put, List.setIfInBounds_toArray, List.set_cons_zero, List.set_cons_succ]) | (refine C_t (v := ?_) rfl rfl ?_ ?_; rotate_left; (go_simp; with_reducible rfl); simp only [Act.put, List.setIfInBounds_toArray, List.set_cons_zero, List.set_cons_succ]) | (refine C_po rfl rfl ?_; simp only [Act.put, List.setIfInBounds_toArray, List.set_cons_zero, List.set_cons_succ]) | (refine C_so rfl rfl hS0 ?_; simp only [Act.put, List.setIfInBounds_toArray, List.set_cons_zero, List.set_cons_succ]) | (refine C_to rfl rfl ?_; simp only [Act.put, List.setIfInBounds_toArray, List.set_cons_zero, List.set_cons_succ])))
        refine C_nil ?_
        clear hS1
        go_wp2_with fail
        go_roundw
        case rel => exact ⟨i + 1, by have := HI4.out; omega, by go_num, H14.out⟩
        case measure => have := HI4.out; simp [intOf]; omega
      · obtain rfl : i = 4 := by omega
        have hb4 := rBytes.mono HJ.out HB.out
        have ho1 := opens_spec X (.slice a0 n0 cap0) b s hS hb4 (by rw [← HN0.out]; have := HR.out; omega)
        rw [decide_eq_true HX.out] at ho1
        have HO1 := Lib.hid ho1
        have HO2 := Lib.hid (fun w' (h : Sat w w' (sep (kn J) emp)) => opens_spec X (.slice a0 n0 cap0) b s2 h hb4 (by rw [← HN0.out]; have := HR.out; omega))
        have hcmp : decide (X = commitN b s2) = z := by
          rw [HX.out, HZ.out]
          exact decide_eq_decide.2 (by rw [commit_salt b s s2 HSB.out (by have := HS2.out; rw [this]; exact Nat.mod_lt _ (by decide)), HS2.out]; have := HSB.out; have := HCHB.out; omega)
        rw [hcmp] at HO2
        clear hS hb4 ho1 hcmp hi4
        go_wp2_with fail
        refine HO1.out.mono ?_
        rintro e w7 ⟨rfl, h12⟩
        have H12 := Lib.hid h12
        clear HO1 h12
        go_wp2_with fail
        refine (HO2.out _ H12.out).mono ?_
        rintro e w8 ⟨rfl, h13⟩
        have H13 := Lib.hid h13
        clear HO2 H12 h13
        go_wp2_with fail
        refine (lives31_spec H13.out).mono ?_
        rintro e w9 ⟨rfl, h14⟩
        have H14 := Lib.hid h14
        clear H13 h14
        go_wp2_with fail
        go_ret
        exact ⟨rfl, H14.out.below⟩
  · have hposI : ¬ (0 : Int) < (n0 : Int) := by omega
    obtain ⟨bent, hbent⟩ : ∃ bent, bent = b := ⟨_, rfl⟩
    have hbl2 : bent.length = n0 := by rw [hbent, ← HN0.out]
    have h5 := h3
    rw [← hbent] at h5
    clear h3
    have HBENT := Lib.hid hbent
    have HBL2 := Lib.hid hbl2
    obtain ⟨J1, hJ1, hr1, h6⟩ := osl_learn h5 (by rw [hbl2])
    have HR1 := Lib.hid hr1
    have HJ1 := Lib.hid hJ1
    have hS3 := (h6.alloc (.cells #[] 5)).osl_mk 0 0 1 [] rfl (by omega) (by unfold maxLen; omega) rfl rfl
    have hsrc3 := HSRC.out _ (fun b o hb => hS3.p1.ext b o (HJ1.out b o hb))
    have HS3 := Lib.hid hsrc3
    clear h5 h6 hbent hbl2 hr1 hJ1 hsrc3
    go_upto_region 5 with (fail)
    go_wp2_with (at_builtin; refine wpl_append_osl rfl (.tmp 35) (.tmp 36) 29 rfl 5 1 1 (.int .u8 0) Try.underlying29 infoU8L rfl rfl hS3 rfl (b.map bv) (by rw [List.length_map, HN0.out]; simp) HNIL.out HS3.out (bv_one b) (by have := HR.out; omega) (by have := HR.out; unfold maxLen; omega) ?_)
    intro a3 c3 w3 h7
    have h8 := h7.alloc0 (.cells #[.int .u8 (y.toNat : Int)] 5)
    clear hS3 HS3 h7
    go_wp2_with (at_builtin; refine wpl_append_osl rfl (.tmp 37) (.tmp 39) 29 rfl 5 1 1 (.int .u8 0) Try.underlying29 infoU8L rfl rfl h8 rfl [.int .u8 (y.toNat : Int)] rfl (by simp) (by intro b hb; cases hb; exact new_src _ [_] _) (by simp [Value.oneCell']) (by have := HR.out; omega) (by have := HR.out; unfold maxLen; omega) ?_)
    intro a4 c4 w4 h9
    obtain ⟨J2, hJ2, hr2, h10⟩ := osl_learn (gb := b ++ [y]) (show Sat w w4 (sep (osl 5 1 a4 (n0 + 1) c4 ((b ++ [y]).map bv)) (sep (kn J1) emp)) by
      have e : (b ++ [y]).map bv = [] ++ b.map bv ++ [.int .u8 (y.toNat : Int)] := by simp [bv]
      rw [e]
      have h99 := h9
      simp only [Nat.zero_add, List.nil_append] at h99 ⊢
      exact h99) (by rw [List.length_append, ← HN0.out]; rfl)
    have HR2 := Lib.hid hr2
    have HJ2 := Lib.hid (Mem.le_trans HJ1.out hJ2)
    have HJ12 := Lib.hid hJ2
    have hn1I : (n0 : Int) + 1 ≤ 140737488351240 := by have := HR.out; omega
    have har2 := around_spec a4i ((n0 : Int) + 1) w4 HA4.out.1 HA4.out.2 (by omega) (by omega)
    have hb2 := aroundI_lt a4i ((n0 : Int) + 1) (by omega)
    obtain ⟨j2, hj2⟩ : ∃ j2 : Nat, (j2 : Int) = aroundI a4i ((n0 : Int) + 1) := ⟨(aroundI a4i ((n0 : Int) + 1)).toNat, by omega⟩
    rw [← hj2] at har2 hb2
    have hj2n : j2 ≤ n0 := by omega
    have hsl := slice_pre a0 n0 cap0 j2 (by have := HSW.out.1; omega) (by have := HSW.out.2.1; unfold maxLen at this; omega) w4
    have hr4 : rBytes.rel (wm w) [.slice a0 j2 cap0] (b.take j2) := bytes_rel.2 ⟨a0, cap0, by rw [List.length_take, ← HN0.out, Nat.min_eq_left hj2n], ⟨by rw [List.length_take, ← HN0.out, Nat.min_eq_left hj2n]; have := HSW.out.1; omega, HSW.out.2.1, HSW.out.2.2⟩, by
      obtain ⟨a', c', e, hw, hc⟩ := bytes_rel.1 HB.out
      simp only [Value.slice.injEq] at e
      obtain ⟨rfl, -, rfl⟩ := e
      rcases hc with hc | ⟨bb, oo, cs, tt, ff, h1, h2, h3⟩
      · exact .inl (by rw [List.map_eq_nil_iff] at hc ⊢; rw [hc]; simp)
      · exact .inr ⟨bb, oo, cs, tt, ff, h1, h2, fun i u hu => h3 i u (by rw [List.map_take, List.getElem?_take] at hu; split at hu; exact hu; cases hu)⟩⟩
    have HR4 := Lib.hid (rBytes.mono HJ2.out hr4)
    have HAR2 := Lib.hid har2
    have hS5 := (h10.alloc (.cells #[.slice a2 len2 cap2, .slice ab n0 cb, .slice a4 (n0 + 1) c4, .slice a0 j2 cap0] 29)).osl_mk 4 4 1 [.slice a2 len2 cap2, .slice ab n0 cb, .slice a4 (n0 + 1) c4, .slice a0 j2 cap0] rfl (by omega) (by unfold maxLen; omega) rfl rfl
    obtain ⟨J, hJ, hcs, h11⟩ := hS5.osl_settle.learn
    have HCS := Lib.hid hcs
    have HJ := Lib.hid (Mem.le_trans HJ2.out hJ)
    have HALL := Lib.hid (fun i (hi : i < 4) => (by
      match i, hi with
      | 0, _ => exact ⟨_, o, rfl, rBytes.mono HJ.out HO.out, by have := HOL.out; omega⟩
      | 1, _ => exact ⟨_, bent, rfl, rBytes.mono (Mem.le_trans HJ12.out hJ) HR1.out, by rw [HBL2.out]; have := HR.out; omega⟩
      | 2, _ => exact ⟨_, b ++ [y], rfl, rBytes.mono hJ HR2.out, by rw [List.length_append, ← HN0.out]; have := HR.out; simp; omega⟩
      | 3, _ => exact ⟨_, b.take j2, rfl, rBytes.mono hJ HR4.out, by rw [List.length_take, ← HN0.out]; have := HR.out; omega⟩ :
        ∃ v l, [Value.slice a2 len2 cap2, .slice ab n0 cb, .slice a4 (n0 + 1) c4, .slice a0 j2 cap0][i]? = some v ∧ rBytes.rel J [v] l ∧ l.length ≤ 140737488351240))
    obtain ⟨gA, hgA⟩ : ∃ g, g = w4.heap.size := ⟨_, rfl⟩
    rw [← hgA] at hcs HCS
    have HGA := Lib.hid hgA
    obtain ⟨w5, hw5⟩ : ∃ w5, w5 = w4.alloc (.cells #[.slice a2 len2 cap2, .slice ab n0 cb, .slice a4 (n0 + 1) c4, .slice a0 j2 cap0] 29) := ⟨_, rfl⟩
    rw [← hw5] at h11
    have HW5 := Lib.hid hw5
    have H11 := Lib.hid h11
    clear h8 h9 h10 hr2 hJ2 har2 hb2 hj2 hr4 hS5 hcs hJ h11 hgA hw5 hj2n
    go_wp2_with fail
    refine HAR2.out.mono ?_
    rintro e w6 ⟨rfl, rfl⟩
    clear HAR2
    go_upto_region 6 with (fail)
    rw [← HW5.out, ← HGA.out]
    go_wp2_with fail
    go_loopw [16] (fun kv wr => ∃ i : Nat, i ≤ 4 ∧ kv = .int .i64 i ∧ Sat w wr (sep (kn J) emp)) (fun kv _ => 4 - (intOf kv).toNat)
    case atStart => exact ⟨0, by omega, rfl, H11.out⟩
    case round =>
      clear H11 hsl
      obtain ⟨i, hi, rfl, hS⟩ := hrel
      by_cases hi4 : i < 4
      · obtain ⟨v, l, hv, hrv, hll⟩ := HALL.out i hi4
        obtain ⟨gg, oo, e, hcc⟩ := cells_ext HCS.out (by simp)
        cases e
        have hcv : ∀ w', Ext J w' → w'.cell? ⟨gA, i, none⟩ = some v := fun w' he => by have := hcc w' he i v hv; rwa [Nat.zero_add] at this
        have HCV := Lib.hid hcv
        have hS0 : wr.drew.cell? ⟨gA, i, none⟩ = some v := hcv wr.drew hS.drew.ext
        have hop := opens_spec X v l s hS.drew hrv hll
        have hcmp : decide (X = commitN l s) = decide (bytesN sealedL l = bytesN sealedL b) := by
          rw [HX.out]
          exact decide_eq_decide.2 (by rw [commit_hash b l s HSB.out]; exact eq_comm)
        rw [hcmp] at hop
        obtain ⟨hl, hhl⟩ : ∃ hl, hl = bytesN sealedL l := ⟨_, rfl⟩
        obtain ⟨d, hd⟩ : ∃ d, d = decide (bytesN sealedL l = bytesN sealedL b) := ⟨_, rfl⟩
        rw [← hd] at hop
        have heq : ((hl : Int) == (hbB : Int)) = d := by
          rw [hd, hhl, HHB.out]
          by_cases e : bytesN sealedL l = bytesN sealedL b
          · rw [e]; simp
          · rw [decide_eq_false e]
            exact beq_eq_false_iff_ne.2 (by omega)
        have e6 : (⟨#[115, 101, 97, 108, 101, 100]⟩ : ByteArray).data.toList = sealedL := rfl
        have HH1 := Lib.hid (fun w' (h : Sat w w' (sep (kn J) emp)) => (by
          have := hbytes_any ⟨#[115, 101, 97, 108, 101, 100]⟩ v l h hrv (by decide) hll
          rw [e6, ← hhl] at this; exact this : Calls Try.prog 23 #[.string ⟨#[115, 101, 97, 108, 101, 100]⟩, v] w' fun e w' => e = .returned (.int .u64 (hl : Nat)) ∧ Sat w w' (sep (kn J) emp)))
        have HH2 := Lib.hid (fun w' (h : Sat w w' (sep (kn J) emp)) => (by
          have := hbytes_any ⟨#[115, 101, 97, 108, 101, 100]⟩ (.slice a0 n0 cap0) b h (rBytes.mono HJ.out HB.out) (by decide) (by rw [← HN0.out]; have := HR.out; omega)
          rw [e6, ← HHB.out] at this; exact this : Calls Try.prog 23 #[.string ⟨#[115, 101, 97, 108, 101, 100]⟩, .slice a0 n0 cap0] w' fun e w' => e = .returned (.int .u64 (hbB : Nat)) ∧ Sat w w' (sep (kn J) emp)))
        have HOP := Lib.hid hop
        have HI4 := Lib.hid hi4
        have hiI : (i : Int) < 4 := by omega
        clear hv hrv hll hcc hcv hop hcmp hhl hd e6 hS hi4
        go_wp2_with fail
        refine wp_region_canon rfl (fun w' => w'.cell? ⟨gA, i, none⟩ = some v) [(0, .p), (1, .p), (2, .p), (3, .p), (4, .t), (5, .p), (7, .p), (8, .p), (9, .p), (10, .s), (12, .p), (6, .e true), (11, .e false), (13, .e false), (14, .p), (15, .p)] (by kernel_rfl) ?_
        (repeat (first | (refine C_p (v := ?_) rfl rfl (fun w' => ?_) ?_; rotate_left; (go_simp; with_reducible rfl); simp only [Act.put, List.setIfInBounds_toArray, List.set_cons_zero, List.set_cons_succ]) | (refine C_s (v := ?_) rfl rfl hS0 (fun w' hS => ?_) ?_; rotate_left; ((try dsimp only at hS); go_simp; with_reducible rfl); simp only [Act.put, List.setIfInBounds_toArray, List.set_cons_zero, List.set_cons_succ]) | (refine C_t (v := ?_) rfl rfl ?_ ?_; rotate_left; (go_simp; with_reducible rfl); simp only [Act.put, List.setIfInBounds_toArray, List.set_cons_zero, List.set_cons_succ]) | (refine C_po rfl rfl ?_; simp only [Act.put, List.setIfInBounds_toArray, List.set_cons_zero, List.set_cons_succ]) | (refine C_so rfl rfl hS0 ?_; simp only [Act.put, List.setIfInBounds_toArray, List.set_cons_zero, List.set_cons_succ]) | (refine C_to rfl rfl ?_; simp only [Act.put, List.setIfInBounds_toArray, List.set_cons_zero, List.set_cons_succ])))
        (refine C_e rfl rfl (fun K hK => ?_); go_simp)
        refine HOP.out.mono ?_
        rintro e w7 ⟨rfl, h12⟩
        have hS1 : w7.cell? ⟨gA, i, none⟩ = some v := HCV.out w7 h12.ext
        have H12 := Lib.hid h12
        clear HOP hS0 h12
        (refine hK _ _ (fun _ => hS1) ?_; clear hK K; (try simp only [Act.put, List.setIfInBounds_toArray, List.set_cons_zero, List.set_cons_succ]))
        (refine C_e rfl rfl (fun K hK => ?_); go_simp)
        refine (HH1.out _ H12.out).mono ?_
        rintro e w8 ⟨rfl, h13⟩
        have H13 := Lib.hid h13
        clear HH1 h13 H12
        (refine hK _ _ (fun h => by cases h) ?_; clear hK K; (try simp only [Act.put, List.setIfInBounds_toArray, List.set_cons_zero, List.set_cons_succ]))
        (refine C_e rfl rfl (fun K hK => ?_); go_simp)
        refine (HH2.out _ H13.out).mono ?_
        rintro e w9 ⟨rfl, h14⟩
        have H14 := Lib.hid h14
        clear HH2 h14 H13
        (refine hK _ _ (fun h => by cases h) ?_; clear hK K; (try simp only [Act.put, List.setIfInBounds_toArray, List.set_cons_zero, List.set_cons_succ]))
        (repeat (first | (refine C_p (v := ?_) rfl rfl (fun w' => ?_) ?_; rotate_left; (go_simp; with_reducible rfl); simp only [Act.put, List.setIfInBounds_toArray, List.set_cons_zero, List.set_cons_succ]) | (refine C_s (v := ?_) rfl rfl hS0 (fun w' hS => ?_) ?_; rotate_left; ((try dsimp only at hS); go_simp; with_reducible rfl); simp only [Act.put, List.setIfInBounds_toArray, List.set_cons_zero, List.set_cons_succ]) | (refine C_t (v := ?_) rfl rfl ?_ ?_; rotate_left; (go_simp; with_reducible rfl); simp only [Act.put, List.setIfInBounds_toArray, List.set_cons_zero, List.set_cons_succ]) | (refine C_po rfl rfl ?_; simp only [Act.put, List.setIfInBounds_toArray, List.set_cons_zero, List.set_cons_succ]) | (refine C_so rfl rfl hS0 ?_; simp only [Act.put, List.setIfInBounds_toArray, List.set_cons_zero, List.set_cons_succ]) | (refine C_to rfl rfl ?_; simp only [Act.put, List.setIfInBounds_toArray, List.set_cons_zero, List.set_cons_succ])))
        refine C_nil ?_
        clear hS1
        go_wp2_with fail
        go_roundw
        case rel => exact ⟨i + 1, by have := HI4.out; omega, by go_num, H14.out⟩
        case measure => have := HI4.out; simp [intOf]; omega
      · obtain rfl : i = 4 := by omega
        have hb4 := rBytes.mono HJ.out HB.out
        have ho1 := opens_spec X (.slice a0 n0 cap0) b s hS hb4 (by rw [← HN0.out]; have := HR.out; omega)
        rw [decide_eq_true HX.out] at ho1
        have HO1 := Lib.hid ho1
        have HO2 := Lib.hid (fun w' (h : Sat w w' (sep (kn J) emp)) => opens_spec X (.slice a0 n0 cap0) b s2 h hb4 (by rw [← HN0.out]; have := HR.out; omega))
        have hcmp : decide (X = commitN b s2) = z := by
          rw [HX.out, HZ.out]
          exact decide_eq_decide.2 (by rw [commit_salt b s s2 HSB.out (by have := HS2.out; rw [this]; exact Nat.mod_lt _ (by decide)), HS2.out]; have := HSB.out; have := HCHB.out; omega)
        rw [hcmp] at HO2
        clear hS hb4 ho1 hcmp hi4
        go_wp2_with fail
        refine HO1.out.mono ?_
        rintro e w7 ⟨rfl, h12⟩
        have H12 := Lib.hid h12
        clear HO1 h12
        go_wp2_with fail
        refine (HO2.out _ H12.out).mono ?_
        rintro e w8 ⟨rfl, h13⟩
        have H13 := Lib.hid h13
        clear HO2 H12 h13
        go_wp2_with fail
        refine (lives31_spec H13.out).mono ?_
        rintro e w9 ⟨rfl, h14⟩
        have H14 := Lib.hid h14
        clear H13 h14
        go_wp2_with fail
        go_ret
        exact ⟨rfl, H14.out.below⟩
end Go.Proofs.Ytcnonbhhlbplpaa
