/- SealLimits, the walk. -/
import Derived.Test.YtcnonbhhlbplpaaS8
import Derived.Test.YtcnonbhhlbplpaaAr
namespace Go.Proofs.Ytcnonbhhlbplpaa
open Go.RowKit PA
theorem infoU8L : (Try.prog.info? 5).map (fun i => (i.zero, i.size, i.bytes)) = some (some (.int .u8 0), 1, 1) := by kernel_rfl
theorem u64_nat {n : Int} (h : (Lit.int .u64 n).wf = true) : ∃ m : Nat, n = (m : Int) ∧ m < 18446744073709551616 := by
  have : 0 ≤ n ∧ n ≤ 18446744073709551615 := bounds_u64 h
  exact ⟨n.toNat, by omega, by omega⟩
set_option maxRecDepth 100000 in
set_option maxHeartbeats 16000000 in
theorem sealLimits_walk (a0 a1 a2 : Int) (w : World) (w0 : (Lit.int .i64 a0).wf = true) (w1 : (Lit.int .i64 a1).wf = true) (w2 : (Lit.int .u64 a2).wf = true) :
    Calls Try.prog 3 #[.int .i64 a0, .int .i64 a1, .int .u64 a2] w fun e w' => e = .returned (.bool true) ∧ Below w.heap.size w w' := by
  obtain ⟨s, rfl, -⟩ := u64_nat w2
  have HA0 := Lib.hid (i64_of_wf w0)
  have HA1 := Lib.hid (i64_of_wf w1)
  have HNEW := Lib.hid (snew_spec (Sat.startKn w))
  clear w0 w1 w2
  go_enter Try.func3, Try.ntmps3
  go_wp2_with fail
  refine HNEW.out.mono ?_
  rintro e w1 ⟨p, rfl, h1⟩
  clear HNEW
  have har := around_spec a0 12 w1 HA0.out.1 HA0.out.2 (by omega) (by omega)
  have hb := aroundI_lt a0 12 (by omega)
  obtain ⟨r, hr⟩ : ∃ r : Nat, (r : Int) = aroundI a0 12 := ⟨(aroundI a0 12).toNat, by omega⟩
  rw [← hr] at har hb
  have HAR := Lib.hid har
  clear har hr
  go_wp2_with fail
  refine HAR.out.mono ?_
  rintro e w2 ⟨rfl, rfl⟩
  clear HAR
  obtain ⟨t, ht⟩ : ∃ t : Nat, t = 65530 + r := ⟨_, rfl⟩
  have htI : 65530 + (r : Int) = (t : Int) := by omega
  have htb : (t : Int) ≤ 65541 := by omega
  have hr12 : (r : Int) < 12 := hb.2
  have HTI := Lib.hid htI
  clear htI ht
  have hwm0 : IntKind.i64.wrap (t : Int) = (t : Int) := IntWalk.i64_in _ (by omega)
  obtain ⟨w3, hmk, h2⟩ := make_bytes (P := Try.prog) (t := 29) (e := 5) Try.underlying29 infoU8L h1 t (by omega)
  obtain ⟨J, hJ, hz, h3⟩ := (show Sat w w3 (sep (rBytes.is [.slice (some ⟨w1.heap.size, 0, none⟩) t t] (List.replicate t 0)) (sep (kn (wm w)) (sep (isBox p (fun _ => none) 0) emp))) by
    have h22 := h2
    rw [show (osl 5 1 (some ⟨w1.heap.size, 0, none⟩) t t ((List.replicate t (0 : UInt8)).map bv)) = osl 5 1 (some ⟨w1.heap.size, 0, none⟩) t t ((List.replicate t (0 : UInt8)).map bv) from rfl] at h22
    have := h22.bytes_of_osl.2
    simpa only [sep_comm, sep_lcomm, sep_assoc] using this).learn
  have hp := sput_any p (fun _ => none) 0 60000 _ (List.replicate t 0) s h3.p1 hz
  have hmk2 : (Instr.makeSlice 29 (.int .i64 (t : Int)) (.int .i64 (t : Int))).run Try.prog w1 = .ok (.slice (some ⟨w1.heap.size, 0, none⟩) t t) w3 := hmk
  obtain ⟨mw, hmw⟩ : ∃ mw, mw = w1.heap.size := ⟨_, rfl⟩
  rw [← hmw] at hmk2 hp
  obtain ⟨pc0, hpc0⟩ : ∃ pc, pc = putC (fun _ => none) 0 60000 (List.replicate t 0) s := ⟨_, rfl⟩
  rw [← hpc0] at hp
  by_cases hbig : 65536 < t
  · have e1 : putE (fun _ => none) 0 60000 (List.replicate t 0) = 4 := by
      unfold putE; rw [if_neg (by omega), if_pos (by simpa using hbig)]
    rw [e1, putM, putN, if_neg (by rw [e1]; omega), if_neg (by rw [e1]; omega)] at hp
    obtain ⟨M0, n0, ks0, hlim, hp⟩ : ∃ M0 n0 ks0, Lim M0 n0 ks0 ∧ Calls Try.prog 11 #[.pointer (some ⟨p, 0, none⟩), .int .i64 60000, .slice (some ⟨mw, 0, none⟩) t t, .int .u64 (s : Nat)] w3 fun e w' => e = .returned (.tuple #[.int .u64 (pc0 : Nat), .int .i64 4]) ∧ Sat w w' (sep (isBox p M0 n0) (sep (kn J) emp)) := ⟨_, _, _, lim0, hp⟩
    have HP := Lib.hid hp
    have HLIM := Lib.hid hlim
    have g1 : ¬ (t : Int) ≤ 65536 := by omega
    clear hp hlim e1 h1 h2 h3 hz hmk hpc0 hJ hmw
    go_upto_region 5 with (fail)
    rw [HTI.out]
    go_wp2_with fail
    refine HP.out.mono ?_
    rintro e w4 ⟨rfl, h5⟩
    clear HP
    have hcs := scommitments_spec p M0 n0 h5
    have HCS := Lib.hid hcs
    clear h5 hcs
    go_wp2_with fail
    refine HCS.out.mono ?_
    rintro e w5 ⟨a5, c5, ks, rfl, hks, -, h6⟩
    obtain rfl := hks.uniq HLIM.out.keys
    rw [HLIM.out.le.2] at h6 ⊢
    have h7 : Sat w w5 (sep (isBox p (limM M0 s n0 n0) n0) (sep (kn J) emp)) := by rw [limM_zero]; exact h6.drop
    have HN0 := Lib.hid HLIM.out.le.1
    clear HCS h6 hks
    go_wp2_with fail
    go_loopw [11] (fun kv wr => ∃ i : Nat, n0 ≤ i ∧ i ≤ 4096 ∧ kv = .int .i64 i ∧ Sat w wr (sep (isBox p (limM M0 s n0 i) i) (sep (kn J) emp))) (fun kv _ => 4096 - (intOf kv).toNat)
    case atStart => exact ⟨n0, Nat.le_refl _, by have := HN0.out; omega, rfl, h7⟩
    case round =>
      clear h7
      obtain ⟨i, hi0, hi, rfl, hS⟩ := hrel
      by_cases hi2 : i < 4096
      · have hp := sput_any p (limM M0 s n0 i) i (i : Int) _ [] s hS (nil_rel J)
        rw [HLIM.out.putE0 s i hi2, putM, putN, if_pos (HLIM.out.putE0 s i hi2), if_pos (HLIM.out.putE0 s i hi2), limM_succ M0 s n0 i hi0] at hp
        obtain ⟨pc, hpc⟩ : ∃ pc, pc = putC (limM M0 s n0 i) i (i : Int) [] s := ⟨_, rfl⟩
        rw [← hpc] at hp
        have HP := Lib.hid hp
        have hiI : (i : Int) < 4096 := by omega
        clear hS hp hpc
        go_wp2_with fail
        refine HP.out.mono ?_
        rintro e w6 ⟨rfl, h8⟩
        go_wp2_with fail
        go_roundw
        case rel => exact ⟨i + 1, by omega, by omega, by go_num, h8⟩
        case measure => simp [intOf]; omega
      · obtain rfl : i = 4096 := by omega
        have har := around_spec a1 4095 wr HA1.out.1 HA1.out.2 (by omega) (by omega)
        have hb := aroundI_lt a1 4095 (by omega)
        obtain ⟨q, hq⟩ : ∃ q, q = aroundI a1 4095 := ⟨_, rfl⟩
        rw [← hq] at har hb
        have HAR := Lib.hid har
        have hp8 := sput_any p (limM M0 s n0 4096) 4096 (1 + q) _ [] s hS (nil_rel J)
        rw [HLIM.out.putE8 s (1 + q) (by omega) (by omega), putM, putN, if_neg (by rw [HLIM.out.putE8 s (1 + q) (by omega) (by omega)]; omega), if_neg (by rw [HLIM.out.putE8 s (1 + q) (by omega) (by omega)]; omega)] at hp8
        obtain ⟨pc, hpc⟩ : ∃ pc, pc = putC (limM M0 s n0 4096) 4096 (1 + q) [] s := ⟨_, rfl⟩
        rw [← hpc] at hp8
        have HP8 := Lib.hid hp8
        clear hS hp8 hpc har hq
        go_wp2_with fail
        refine HAR.out.mono ?_
        rintro e w6 ⟨rfl, rfl⟩
        clear HAR
        go_wp2_with fail
        refine HP8.out.mono ?_
        rintro e w7 ⟨rfl, h9⟩
        have hp4 := sput_any p (limM M0 s n0 4096) 4096 (5000 + (1 + q)) _ [] s h9 (nil_rel J)
        rw [HLIM.out.putE4 s (1 + q) (by omega) (by omega), putM, putN, if_neg (by rw [HLIM.out.putE4 s (1 + q) (by omega) (by omega)]; omega), if_neg (by rw [HLIM.out.putE4 s (1 + q) (by omega) (by omega)]; omega)] at hp4
        obtain ⟨pc4, hpc4⟩ : ∃ pc, pc = putC (limM M0 s n0 4096) 4096 (5000 + (1 + q)) [] s := ⟨_, rfl⟩
        rw [← hpc4] at hp4
        have HP4 := Lib.hid hp4
        clear HP8 h9 hp4 hpc4
        go_wp2_with fail
        refine HP4.out.mono ?_
        rintro e w8 ⟨rfl, h10⟩
        have hp1 := sput_any p (limM M0 s n0 4096) 4096 (65536 + (1 + q)) _ [] s h10 (nil_rel J)
        have e1 := Lim.putE1 (M0 := M0) (n0 := n0) s (1 + q) (by omega)
        rw [e1, putM, putN, if_neg (by rw [e1]; omega), if_neg (by rw [e1]; omega)] at hp1
        obtain ⟨pc1, hpc1⟩ : ∃ pc, pc = putC (limM M0 s n0 4096) 4096 (65536 + (1 + q)) [] s := ⟨_, rfl⟩
        rw [← hpc1] at hp1
        have HP1 := Lib.hid hp1
        clear HP4 h10 hp1 hpc1 e1
        go_wp2_with fail
        refine HP1.out.mono ?_
        rintro e w9 ⟨rfl, h11⟩
        have hse := ssealed_spec p (limM M0 s n0 4096) 4096 h11
        have HSE := Lib.hid hse
        clear HP1 h11 hse
        go_wp2_with fail
        refine HSE.out.mono ?_
        rintro e w10 ⟨a10, c10, ks10, rfl, hk10, -, h12⟩
        rw [HLIM.out.end s hk10] at h12 ⊢
        have hli := lives31_spec h12.drop
        have HLI := Lib.hid hli
        clear HSE h12 hk10 hli
        go_wp2_with fail
        refine HLI.out.mono ?_
        rintro e w11 ⟨rfl, h13⟩
        go_wp2_with fail
        go_ret
        exact ⟨rfl, h13.below⟩
  · have e1 : putE (fun _ => none) 0 60000 (List.replicate t 0) = 0 := by
      unfold putE; rw [if_neg (by omega), if_neg (by simpa using hbig), if_neg (by simp), if_neg (by omega)]
    rw [e1, putM, putN, if_pos e1, if_pos e1] at hp
    obtain ⟨M0, n0, ks0, hlim, hp⟩ : ∃ M0 n0 ks0, Lim M0 n0 ks0 ∧ Calls Try.prog 11 #[.pointer (some ⟨p, 0, none⟩), .int .i64 60000, .slice (some ⟨mw, 0, none⟩) t t, .int .u64 (s : Nat)] w3 fun e w' => e = .returned (.tuple #[.int .u64 (pc0 : Nat), .int .i64 0]) ∧ Sat w w' (sep (isBox p M0 n0) (sep (kn J) emp)) := ⟨_, _, _, lim1 _ s, hp⟩
    have HP := Lib.hid hp
    have HLIM := Lib.hid hlim
    have g1 : (t : Int) ≤ 65536 := by omega
    clear hp hlim e1 h1 h2 h3 hz hmk hpc0 hJ hmw
    go_upto_region 5 with (fail)
    rw [HTI.out]
    go_wp2_with fail
    refine HP.out.mono ?_
    rintro e w4 ⟨rfl, h5⟩
    clear HP
    have hcs := scommitments_spec p M0 n0 h5
    have HCS := Lib.hid hcs
    clear h5 hcs
    go_wp2_with fail
    refine HCS.out.mono ?_
    rintro e w5 ⟨a5, c5, ks, rfl, hks, -, h6⟩
    obtain rfl := hks.uniq HLIM.out.keys
    rw [HLIM.out.le.2] at h6 ⊢
    have h7 : Sat w w5 (sep (isBox p (limM M0 s n0 n0) n0) (sep (kn J) emp)) := by rw [limM_zero]; exact h6.drop
    have HN0 := Lib.hid HLIM.out.le.1
    clear HCS h6 hks
    go_wp2_with fail
    go_loopw [11] (fun kv wr => ∃ i : Nat, n0 ≤ i ∧ i ≤ 4096 ∧ kv = .int .i64 i ∧ Sat w wr (sep (isBox p (limM M0 s n0 i) i) (sep (kn J) emp))) (fun kv _ => 4096 - (intOf kv).toNat)
    case atStart => exact ⟨n0, Nat.le_refl _, by have := HN0.out; omega, rfl, h7⟩
    case round =>
      clear h7
      obtain ⟨i, hi0, hi, rfl, hS⟩ := hrel
      by_cases hi2 : i < 4096
      · have hp := sput_any p (limM M0 s n0 i) i (i : Int) _ [] s hS (nil_rel J)
        rw [HLIM.out.putE0 s i hi2, putM, putN, if_pos (HLIM.out.putE0 s i hi2), if_pos (HLIM.out.putE0 s i hi2), limM_succ M0 s n0 i hi0] at hp
        obtain ⟨pc, hpc⟩ : ∃ pc, pc = putC (limM M0 s n0 i) i (i : Int) [] s := ⟨_, rfl⟩
        rw [← hpc] at hp
        have HP := Lib.hid hp
        have hiI : (i : Int) < 4096 := by omega
        clear hS hp hpc
        go_wp2_with fail
        refine HP.out.mono ?_
        rintro e w6 ⟨rfl, h8⟩
        go_wp2_with fail
        go_roundw
        case rel => exact ⟨i + 1, by omega, by omega, by go_num, h8⟩
        case measure => simp [intOf]; omega
      · obtain rfl : i = 4096 := by omega
        have har := around_spec a1 4095 wr HA1.out.1 HA1.out.2 (by omega) (by omega)
        have hb := aroundI_lt a1 4095 (by omega)
        obtain ⟨q, hq⟩ : ∃ q, q = aroundI a1 4095 := ⟨_, rfl⟩
        rw [← hq] at har hb
        have HAR := Lib.hid har
        have hp8 := sput_any p (limM M0 s n0 4096) 4096 (1 + q) _ [] s hS (nil_rel J)
        rw [HLIM.out.putE8 s (1 + q) (by omega) (by omega), putM, putN, if_neg (by rw [HLIM.out.putE8 s (1 + q) (by omega) (by omega)]; omega), if_neg (by rw [HLIM.out.putE8 s (1 + q) (by omega) (by omega)]; omega)] at hp8
        obtain ⟨pc, hpc⟩ : ∃ pc, pc = putC (limM M0 s n0 4096) 4096 (1 + q) [] s := ⟨_, rfl⟩
        rw [← hpc] at hp8
        have HP8 := Lib.hid hp8
        clear hS hp8 hpc har hq
        go_wp2_with fail
        refine HAR.out.mono ?_
        rintro e w6 ⟨rfl, rfl⟩
        clear HAR
        go_wp2_with fail
        refine HP8.out.mono ?_
        rintro e w7 ⟨rfl, h9⟩
        have hp4 := sput_any p (limM M0 s n0 4096) 4096 (5000 + (1 + q)) _ [] s h9 (nil_rel J)
        rw [HLIM.out.putE4 s (1 + q) (by omega) (by omega), putM, putN, if_neg (by rw [HLIM.out.putE4 s (1 + q) (by omega) (by omega)]; omega), if_neg (by rw [HLIM.out.putE4 s (1 + q) (by omega) (by omega)]; omega)] at hp4
        obtain ⟨pc4, hpc4⟩ : ∃ pc, pc = putC (limM M0 s n0 4096) 4096 (5000 + (1 + q)) [] s := ⟨_, rfl⟩
        rw [← hpc4] at hp4
        have HP4 := Lib.hid hp4
        clear HP8 h9 hp4 hpc4
        go_wp2_with fail
        refine HP4.out.mono ?_
        rintro e w8 ⟨rfl, h10⟩
        have hp1 := sput_any p (limM M0 s n0 4096) 4096 (65536 + (1 + q)) _ [] s h10 (nil_rel J)
        have e1 := Lim.putE1 (M0 := M0) (n0 := n0) s (1 + q) (by omega)
        rw [e1, putM, putN, if_neg (by rw [e1]; omega), if_neg (by rw [e1]; omega)] at hp1
        obtain ⟨pc1, hpc1⟩ : ∃ pc, pc = putC (limM M0 s n0 4096) 4096 (65536 + (1 + q)) [] s := ⟨_, rfl⟩
        rw [← hpc1] at hp1
        have HP1 := Lib.hid hp1
        clear HP4 h10 hp1 hpc1 e1
        go_wp2_with fail
        refine HP1.out.mono ?_
        rintro e w9 ⟨rfl, h11⟩
        have hse := ssealed_spec p (limM M0 s n0 4096) 4096 h11
        have HSE := Lib.hid hse
        clear HP1 h11 hse
        go_wp2_with fail
        refine HSE.out.mono ?_
        rintro e w10 ⟨a10, c10, ks10, rfl, hk10, -, h12⟩
        rw [HLIM.out.end s hk10] at h12 ⊢
        have hli := lives31_spec h12.drop
        have HLI := Lib.hid hli
        clear HSE h12 hk10 hli
        go_wp2_with fail
        refine HLI.out.mono ?_
        rintro e w11 ⟨rfl, h13⟩
        go_wp2_with fail
        go_ret
        exact ⟨rfl, h13.below⟩
end Go.Proofs.Ytcnonbhhlbplpaa
