/- SealOwn, the walk. -/
import Derived.Test.YtcnonbhhlbplpaaS18
namespace Go.Proofs.Ytcnonbhhlbplpaa
open Go.RowKit PA
theorem newWr {W w : World} {A : Assn} (h : Sat W w A) : Sat W (w.alloc (.cells #[.slice none 0 0] 55)) (sep (isWr w.heap.size []) A) :=
  isWr_mk (a := none) (n := 0) (c := 0) (bs := []) ((h.osl_nil 5 1).alloc (.cells #[.slice none 0 0] 55))
theorem own_keys (k : Int) (e1 e2 e3 : Ent) : MKeys (eset (eset (eset (fun _ => none) k e1) k e2) k e3) [k] := by
  refine ⟨by simp, fun j => ?_⟩
  unfold eset
  by_cases e : j = k <;> simp [e]
set_option maxRecDepth 100000 in
set_option maxHeartbeats 16000000 in
theorem sealOwn_walk (a0 : Option Addr) (len0 cap0 : Nat) (z0 : List Int) (a1 : Int) (a2 : Int) (w : World)
    (w0 : IsArg w a0 len0 cap0 z0) (w1 : (Lit.int .u64 a1).wf = true) (w2 : (Lit.int .i64 a2).wf = true) :
    Calls Try.prog 8 #[.slice a0 len0 cap0, .int .u64 a1, .int .i64 a2] w fun e w' => e = .returned (.bool true) ∧ Below w.heap.size w w' := by
  obtain ⟨L, hL, hrel, hL64⟩ := argI w0
  obtain ⟨s, rfl, hs⟩ := u64_nat w1
  obtain ⟨a', c', e1, hsw, hcells⟩ := ints_rel.1 hrel
  simp only [Value.slice.injEq] at e1
  obtain ⟨rfl, -, rfl⟩ := e1
  have hl64 : (len0 : Int) ≤ 9223372036854775807 := by rw [hL]; have := hsw.1; have := hsw.2.1; unfold maxLen at this; omega
  obtain ⟨n, hn⟩ : ∃ n, n = min len0 100 := ⟨_, rfl⟩
  have hmn1 : (if (100 : Int) < (len0 : Int) then (100 : Int) else (len0 : Int)) = (n : Int) := by split <;> omega
  have hmn3 : min (len0 : Int) 100 = (n : Int) := by omega
  obtain ⟨ns, hns⟩ : ∃ ns, ns = L.take n := ⟨_, rfl⟩
  have hnl : ns.length = n := by rw [hns, List.length_take]; omega
  have hn64 : ∀ x ∈ ns, -9223372036854775808 ≤ x ∧ x ≤ 9223372036854775807 := fun x hx => hL64 x (by rw [hns] at hx; exact List.mem_of_mem_take hx)
  have hcn : cellsAt a0 (ns.map iv) (wm w) := by
    rw [hns]
    rcases hcells with hc | ⟨bb, oo, cs, tt, ff, h1, h2, h3⟩
    · exact .inl (by rw [List.map_eq_nil_iff] at hc ⊢; rw [hc]; simp)
    · exact .inr ⟨bb, oo, cs, tt, ff, h1, h2, fun i u hu => h3 i u (by rw [List.map_take, List.getElem?_take] at hu; split at hu; exact hu; cases hu)⟩
  have hsl := fun w => slice_preI a0 len0 cap0 n (by have := hsw.1; omega) w
  obtain ⟨bs, hbs⟩ : ∃ bs, bs = intsE ns := ⟨_, rfl⟩
  have hbl : bs.length ≤ 1010 := by
    rw [hbs, intsE, List.length_append]
    have h1 := flat_len ns hn64
    have h2 := Lib.uvarint_length64 (x := ns.length) (by omega)
    omega
  obtain ⟨m, hm⟩ : ∃ m, m = bs.length := ⟨_, rfl⟩
  have hmI : (m : Int) ≤ 1010 := by omega
  have HNS := Lib.hid (And.intro hnl hn64)
  have HCN := Lib.hid hcn
  have HBS := Lib.hid hbs
  have HM := Lib.hid hm
  have HA2 := Lib.hid (i64_of_wf w2)
  have HNEW := Lib.hid (snew_spec (Sat.startKn w))
  have hn100 : n ≤ 100 := by omega
  have HN100 := Lib.hid hn100
  clear w0 w1 w2 hrel hL64 hcells hsw hL hn hns hnl hn64 hcn hbs hbl hm hn100
  go_enter Try.func8, Try.ntmps8
  go_wp2_with fail
  refine HNEW.out.mono ?_
  rintro e w1 ⟨px, rfl, h1⟩
  clear HNEW
  have h2 := newWr h1
  obtain ⟨q, hq⟩ : ∃ q, q = w1.heap.size := ⟨_, rfl⟩
  obtain ⟨w2, hw2⟩ : ∃ w2, w2 = w1.alloc (.cells #[.slice none 0 0] 55) := ⟨_, rfl⟩
  rw [← hq, ← hw2] at h2
  have HQ := Lib.hid hq
  have HW2 := Lib.hid hw2
  have hwi := wints_spec q [] a0 cap0 ns (show Sat w w2 (sep (isWr q []) (sep (kn (wm w)) (sep (isBox px (fun _ => none) 0) emp))) by simpa only [sep_comm, sep_lcomm, sep_assoc] using h2) HCN.out (by rw [HNS.out.1]; exact HN100.out) (by simp) HNS.out.2
  rw [List.nil_append, ← HBS.out, HNS.out.1] at hwi
  have HWI := Lib.hid hwi
  clear h1 h2 hq hw2 hwi
  go_upto_region 6 with (fail)
  rw [← HW2.out, ← HQ.out]
  clear hsl hmn1 hmn3
  go_wp2_with fail
  refine HWI.out.mono ?_
  rintro e w3 ⟨rfl, h3⟩
  have hS3 := (h3.alloc (.cells #[] 5)).osl_mk 0 0 1 [] rfl (by omega) (by unfold maxLen; omega) rfl rfl
  have hdn := wdone_spec q bs hS3.p1 (by rw [← HM.out]; omega)
  rw [← HM.out] at hdn
  have HDN := Lib.hid hdn
  obtain ⟨g3, hg3⟩ : ∃ g3, g3 = w3.heap.size := ⟨_, rfl⟩
  rw [← hg3] at HDN
  have HG3 := Lib.hid hg3
  clear HWI h3 hS3 hdn hg3
  go_wp2_with fail
  refine HDN.out.mono ?_
  rintro e w4 ⟨aD, cD, rfl, h4⟩
  rw [← HG3.out]
  have hsrcD := h4.osl_src
  have hswD := h4.swf_of_osl
  have hnilD : aD = none → m = 0 := fun e => by have := hswD.2.2 e; have := hswD.1; omega
  have h5 := (show Sat w w4 (sep (osl 5 1 (some ⟨g3, 0, none⟩) 0 0 []) (sep (isBox px (fun _ => none) 0) (sep (kn (wm w)) emp))) by
    have h44 := (show Sat w w4 (sep (isWr q bs) (sep (osl 5 1 (some ⟨g3, 0, none⟩) 0 0 []) (sep (isBox px (fun _ => none) 0) (sep (kn (wm w)) emp)))) by
      have := h4.forget_osl
      simpa only [sep_comm, sep_lcomm, sep_assoc] using this).drop
    exact h44)
  have HD := Lib.hid (And.intro hsrcD hnilD)
  clear h4 hsrcD hswD hnilD HDN
  go_wp2_with (at_builtin; refine wpl_append_osl rfl (.tmp 33) (.tmp 34) 29 rfl 5 1 1 (.int .u8 0) Try.underlying29 infoU8L rfl rfl h5 rfl (bs.map bv) (by rw [List.length_map, ← HM.out]; simp) HD.out.2 HD.out.1 (bv_one bs) (by omega) (by unfold maxLen; omega) ?_)
  intro aB cB w5 h6
  have har := around_spec a2 65536 w5 HA2.out.1 HA2.out.2 (by omega) (by omega)
  have hk := aroundI_lt a2 65536 (by omega)
  obtain ⟨k, hkk⟩ : ∃ k, k = aroundI a2 65536 := ⟨_, rfl⟩
  rw [← hkk] at har hk
  have h6' : Sat w w5 (sep (osl 5 1 aB m cB (bs.map bv)) (sep (isBox px (fun _ => none) 0) (sep (kn (wm w)) emp))) := h6
  have hput := sput_own px (fun _ => none) 0 k aB cB bs s (show Sat w w5 (sep (isBox px (fun _ => none) 0) (sep (kn (wm w)) (sep (osl 5 1 aB m cB (bs.map bv)) emp))) by simpa only [sep_comm, sep_lcomm, sep_assoc] using h6') (by rw [← HM.out]; exact h6'.swf_of_osl) h6'.osl_src (by
    unfold putE; rw [if_neg (by omega), if_neg (by rw [← HM.out]; omega), if_neg (by simp), if_neg (by omega)])
  rw [← HM.out] at hput
  obtain ⟨CC, hC⟩ : ∃ CC, CC = commitN bs s := ⟨_, rfl⟩
  rw [← hC] at hput
  have HQT := Lib.hid hput
  have HAR := Lib.hid har
  have HC := Lib.hid hC
  clear h5 h6 h6' hput har hk hkk hC HD
  go_wp2_with fail
  refine HAR.out.mono ?_
  rintro e w6 ⟨rfl, rfl⟩
  clear HAR
  go_wp2_with fail
  refine HQT.out.mono ?_
  rintro e w7 ⟨rfl, h7⟩
  obtain ⟨M1, hM1⟩ : ∃ M1, M1 = eset (fun _ => none) k ⟨bs, s, false⟩ := ⟨_, rfl⟩
  have h8 : Sat w w7 (sep (osl 5 1 aB m cB (bs.map bv)) (sep (isBox px M1 1) (sep (kn (wm w)) emp))) := by
    rw [hM1]
    simpa only [sep_comm, sep_lcomm, sep_assoc] using h7
  have HM1 := Lib.hid hM1
  clear HQT h7 hM1
  go_wp2_with fail
  go_loopw [13] (fun kv wr => ∃ (i : Nat) (ys : List UInt8), i ≤ m ∧ kv = .int .i64 i ∧ ys.length = m ∧ Sat w wr (sep (osl 5 1 aB m cB (ys.map bv)) (sep (isBox px M1 1) (sep (kn (wm w)) emp)))) (fun kv _ => m - (intOf kv).toNat)
  case atStart => exact ⟨0, bs, Nat.zero_le _, rfl, HM.out.symm, h8⟩
  case round =>
    clear h8
    obtain ⟨i, ys, hi, rfl, hyl, hS⟩ := hrel
    by_cases him : i < m
    · have hil : i < ys.length := by rw [hyl]; exact him
      obtain ⟨y, hy⟩ : ∃ y, y = ys[i] := ⟨_, rfl⟩
      obtain ⟨y2, hy2⟩ : ∃ y2 : UInt8, y2 = y + 1 := ⟨_, rfl⟩
      have hwy : IntKind.u8.wrap ((y.toNat : Int) + 1) = (y2.toNat : Int) := by
        rw [IntKind.wrap_u8, hy2, UInt8.toNat_add]
        have : (1 : UInt8).toNat = 1 := rfl
        rw [this]; omega
      obtain ⟨g, e, hcg, hfg, h9⟩ := hS.osl_set i (by rw [List.length_map]; exact hil) (.int .u8 (y2.toNat : Int))
      subst e
      have hcg2 : wr.cell? ⟨g, i, none⟩ = some (.int .u8 (y.toNat : Int)) := by rw [hcg, List.getElem_map, ← hy]; rfl
      have hset : (ys.map bv).set i (.int .u8 (y2.toNat : Int)) = (ys.set i y2).map bv := by rw [List.map_set]; rfl
      rw [hset] at h9
      have H9 := Lib.hid h9
      have HYL := Lib.hid hyl
      have hiI : (i : Int) < (m : Int) := by omega
      clear hS h9 hcg hset hy hy2 hyl
      go_wp2_with fail
      go_roundw
      case rel => exact ⟨i + 1, ys.set i y2, by omega, by go_num, by rw [List.length_set]; exact HYL.out, H9.out⟩
      case measure => simp [intOf]; omega
    · obtain rfl : m = i := by omega
      have hiI : ¬ (m : Int) < (m : Int) := by omega
      have h10 := hS.forget_osl
      obtain ⟨M2, hM2⟩ : ∃ M2, M2 = eset M1 k ⟨bs, s, true⟩ := ⟨_, rfl⟩
      have ho1 := sopen_ok px M1 1 k ⟨bs, s, false⟩ h10 (by rw [HM1.out]; simp [eset])
      have ho1' : Calls Try.prog 16 #[.pointer (some ⟨px, 0, none⟩), .int .i64 k] wr fun e w' => ∃ a c, e = .returned (.tuple #[.slice a m c, .int .u64 (s : Nat), .int .i64 0]) ∧
          Sat w w' (sep (osl 5 1 a m c (bs.map bv)) (sep (isBox px M2 1) (sep (kn (wm w)) emp))) := by
        rw [hM2, HM.out]; exact ho1
      have HO1 := Lib.hid ho1'
      have HM2 := Lib.hid hM2
      clear hS h10 ho1 ho1' hM2 him hyl
      go_wp2_with fail
      refine HO1.out.mono ?_
      rintro e w8 ⟨a8, c8, rfl, h11⟩
      clear HO1
      go_wp2_with fail
      go_loopw [17] (fun kv wr => ∃ (i : Nat) (ys : List UInt8), i ≤ m ∧ kv = .int .i64 i ∧ ys.length = m ∧ Sat w wr (sep (osl 5 1 a8 m c8 (ys.map bv)) (sep (isBox px M2 1) (sep (kn (wm w)) emp)))) (fun kv _ => m - (intOf kv).toNat)
      case atStart => exact ⟨0, bs, Nat.zero_le _, rfl, HM.out.symm, h11⟩
      case round =>
        clear h11
        obtain ⟨i, ys, hi, rfl, hyl, hS⟩ := hrel
        by_cases him : i < m
        · have hil : i < ys.length := by rw [hyl]; exact him
          obtain ⟨y, hy⟩ : ∃ y, y = ys[i] := ⟨_, rfl⟩
          obtain ⟨y2, hy2⟩ : ∃ y2 : UInt8, y2 = y + 1 := ⟨_, rfl⟩
          have hwy : IntKind.u8.wrap ((y.toNat : Int) + 1) = (y2.toNat : Int) := by
            rw [IntKind.wrap_u8, hy2, UInt8.toNat_add]
            have : (1 : UInt8).toNat = 1 := rfl
            rw [this]; omega
          obtain ⟨g, e, hcg, hfg, h9⟩ := hS.osl_set i (by rw [List.length_map]; exact hil) (.int .u8 (y2.toNat : Int))
          subst e
          have hcg2 : wr.cell? ⟨g, i, none⟩ = some (.int .u8 (y.toNat : Int)) := by rw [hcg, List.getElem_map, ← hy]; rfl
          have hset : (ys.map bv).set i (.int .u8 (y2.toNat : Int)) = (ys.set i y2).map bv := by rw [List.map_set]; rfl
          rw [hset] at h9
          have H9 := Lib.hid h9
          have HYL := Lib.hid hyl
          have hiI : (i : Int) < (m : Int) := by omega
          clear hS h9 hcg hset hy hy2 hyl
          go_wp2_with fail
          go_roundw
          case rel => exact ⟨i + 1, ys.set i y2, by omega, by go_num, by rw [List.length_set]; exact HYL.out, H9.out⟩
          case measure => simp [intOf]; omega
        · obtain rfl : m = i := by omega
          have hiI : ¬ (m : Int) < (m : Int) := by omega
          have h12 := hS.forget_osl
          obtain ⟨M3, hM3⟩ : ∃ M3, M3 = eset M2 k ⟨bs, s, true⟩ := ⟨_, rfl⟩
          have ho2 := sopen_ok px M2 1 k ⟨bs, s, true⟩ h12 (by rw [HM2.out]; simp [eset])
          have ho2' : Calls Try.prog 16 #[.pointer (some ⟨px, 0, none⟩), .int .i64 k] wr fun e w' => ∃ a c, e = .returned (.tuple #[.slice a m c, .int .u64 (s : Nat), .int .i64 0]) ∧
              Sat w w' (sep (osl 5 1 a m c (bs.map bv)) (sep (isBox px M3 1) (sep (kn (wm w)) emp))) := by
            rw [hM3, HM.out]; exact ho2
          have HO2 := Lib.hid ho2'
          have HM3 := Lib.hid hM3
          clear hS h12 ho2 ho2' hM3 him hyl
          go_wp2_with fail
          refine HO2.out.mono ?_
          rintro e w9 ⟨a9, c9, rfl, h13⟩
          obtain ⟨J, hJ, hr9, h14⟩ := osl_learn (show Sat w w9 (sep (osl 5 1 a9 m c9 (bs.map bv)) (sep (kn (wm w)) (sep (isBox px M3 1) emp))) by simpa only [sep_comm, sep_lcomm, sep_assoc] using h13) HM.out
          obtain ⟨-, hsw9, hsrc9⟩ := rel_src' hr9
          have hrd := read_any a9 c9 bs h14 (by rw [← HM.out]; exact hsw9) (hsrc9 w9 h14.ext) (by rw [← HM.out]; omega)
          rw [← HM.out] at hrd
          have HRD := Lib.hid hrd
          have HJ := Lib.hid hJ
          have HR9 := Lib.hid hr9
          clear HO2 h13 h14 hJ hr9 hsw9 hsrc9 hrd
          go_wp2_with fail
          refine HRD.out.mono ?_
          rintro e w10 ⟨pr, rfl, h15⟩
          have hri := rdints_spec pr ns (show Sat w w10 (sep (isRd 85 pr (.ok (intsE ns))) (sep (kn J) (sep (isBox px M3 1) emp))) by rw [← HBS.out]; exact h15) (by rw [HNS.out.1]; exact HN100.out) HNS.out.2
          rw [HNS.out.1] at hri
          have HRI := Lib.hid hri
          clear HRD h15 hri
          go_wp2_with fail
          refine HRI.out.mono ?_
          rintro e w11 ⟨aI, cI, rfl, h16⟩
          have hsame := sameInts_spec w11 aI a0 cI cap0 ns ns (by rw [HNS.out.1]; have := HN100.out; omega) (by rw [HNS.out.1]; have := HN100.out; omega) (src_osl iv rfl h16) (fun hne => by
            obtain ⟨g, o, e, hc⟩ := cells_ext HCN.out (fun e => hne (List.map_eq_nil_iff.1 e))
            exact ⟨g, o, e, hc w11 (fun b o hb => h16.p2.ext b o (HJ.out b o hb))⟩)
          rw [decide_eq_true (rfl : ns = ns), HNS.out.1] at hsame
          have HSM := Lib.hid hsame
          have H17 := Lib.hid h16.forget_osl
          clear HRI h16 hsame
          go_wp2_with fail
          refine HSM.out.mono ?_
          rintro e w12 ⟨rfl, nd, rfl⟩
          have h18 : Sat w (w11.drewN nd) (sep (isRd 85 pr (.ok [])) (sep (kn J) (sep (isBox px M3 1) emp))) := H17.out.alike rfl rfl rfl rfl
          have hre := rdend_spec pr (.ok []) h18 (by show ([] : List UInt8).length ≤ 1073742900; simp)
          have hse : stE (.ok []) = 0 := by simp [stE]
          rw [hse] at hre
          have HRE := Lib.hid hre
          clear HSM H17 h18 hre hse
          go_wp2_with fail
          refine HRE.out.mono ?_
          rintro e w13 ⟨rfl, h19⟩
          have hop := opens_spec CC (.slice a9 m c9) bs s h19.p1 HR9.out (by rw [← HM.out]; omega)
          rw [decide_eq_true HC.out] at hop
          have HOP := Lib.hid hop
          clear HRE h19 hop
          go_wp2_with fail
          refine HOP.out.mono ?_
          rintro e w14 ⟨rfl, h20⟩
          have hco := scommitments_spec px M3 1 (show Sat w w14 (sep (isBox px M3 1) (sep (kn J) (sep (isRd 85 pr (.ok [])) emp))) by simpa only [sep_comm, sep_lcomm, sep_assoc] using h20)
          have HCO := Lib.hid hco
          clear HOP h20 hco
          go_wp2_with fail
          refine HCO.out.mono ?_
          rintro e w15 ⟨a15, c15, ks, rfl, hks, -, h21⟩
          obtain rfl := hks.uniq (by rw [HM3.out, HM2.out, HM1.out]; exact own_keys k _ _ _)
          have hcm : [k].map (comE M3) = [CC] := by rw [HC.out, HM3.out]; simp [comE, eset]
          rw [hcm] at h21
          have h22 := lit_osl (E := 22) (show Sat w w15 (sep (osl 22 1 a15 1 c15 ([CC].map uv)) (sep (isBox px M3 1) (sep (kn J) (sep (isRd 85 pr (.ok [])) emp)))) from h21) [.int .u64 (CC : Nat)] 1 rfl (by decide)
          have hs3 := same31_sat a15 (some ⟨w15.heap.size, 0, none⟩) c15 1 [CC] [CC] (W := w) h22.p1
          rw [decide_eq_true (rfl : [CC] = [CC])] at hs3
          have HS3 := Lib.hid hs3
          clear HCO h21 h22 hs3 hks hcm
          go_wp2_with fail
          refine HS3.out.mono ?_
          rintro e w16 ⟨rfl, h23⟩
          have hli := lives31_spec h23
          have HLI := Lib.hid hli
          clear HS3 h23 hli
          go_wp2_with fail
          refine HLI.out.mono ?_
          rintro e w17 ⟨rfl, h24⟩
          go_wp2_with fail
          go_ret
          exact ⟨rfl, h24.below⟩
end Go.Proofs.Ytcnonbhhlbplpaa
