/- AuthmapHash, the walk. -/
import Derived.Test.YtcmjbjlliehdiaaDoorQ12
import Derived.Test.YtcmjbjlliehdiaaDoorQ13
import Derived.Test.YtcmjbjlliehdiaaDoorAr
import Derived.Test.YtcmjbjlliehdiaaDoorFe
namespace PA
open Go Go.RowKit
def hOf (k : Int) (v : List UInt8) : Nat → Nat
  | 0 => leafN k v
  | i + 1 => if atB k i % 2 = 0 then nodeN (hOf k v i) 0 else nodeN 0 (hOf k v i)
def oneM (k : Int) (v : List UInt8) : KVs := fset (fun _ => none) k (some v)
theorem oneM_other {k : Int} {v : List UInt8} {l : Nat} {n : Int} (h : n ≠ atB k l) : hbN (oneM k v) l n = none := by
  rw [oneM, hbN_put _ h]; exact (hbN_none l n).2 fun _ _ => rfl
theorem hOf_hb (k : Int) (v : List UInt8) : ∀ i, hbN (oneM k v) i (atB k i) = some (hOf k v i)
  | 0 => by rw [hbN, atB_zero, oneM, fset, if_pos rfl]; rfl
  | i + 1 => by
    have ih := hOf_hb k v i
    rw [hbN, atB_succ, hOf]
    by_cases h : atB k i % 2 = 0
    · rw [if_pos h, show 2 * (atB k i / 2) = atB k i by omega, ih, oneM_other (n := atB k i + 1) (by omega)]; rfl
    · rw [if_neg h, show 2 * (atB k i / 2) + 1 = atB k i by omega, ih, oneM_other (n := 2 * (atB k i / 2)) (by omega)]; rfl
theorem oneM_del (k : Int) (v : List UInt8) : fset (oneM k v) k none = fun _ => none := by
  funext j
  unfold oneM fset
  split <;> rfl
theorem hOf_lt (k : Int) (v : List UInt8) (i : Nat) : hOf k v i < 18446744073709551616 := by
  cases i with
  | zero => exact leafN_lt _ _
  | succ i => rw [hOf]; split <;> exact nodeN_lt _ _
end PA
namespace Go.Proofs.YtcmjbjlliehdiaaDoor
open Go.RowKit PA
theorem root_one {k : Int} (v : List UInt8) (h0 : 0 ≤ k) (h1 : k ≤ 4095) : rootN (oneM k v) = hOf k v 12 := by
  have h := hOf_hb k v 12
  have e : atB k 12 = 0 := by unfold atB; omega
  rw [e] at h
  rw [rootN, h]; rfl
theorem pair_lit {W w : World} {A : Assn} {J : Mem} (k : Int) (v : List UInt8) (a : Option Addr) (n c : Nat) (hn : n = v.length) (h : Sat W w (sep (kn J) A)) (hr : rBytes.rel J [.slice a n c] v) :
    ∃ K, Mem.le J K ∧ (rPairQ.slice 2).rel K [.slice (some ⟨w.heap.size, 0, none⟩) 1 1] [(k, v)] ∧ Sat W (w.alloc (.cells #[.int .i64 k, .slice a n c] 34)) (sep (kn K) A) := by
  subst hn
  have h1 := (h.alloc (.cells #[.int .i64 k, .slice a v.length c] 34)).osl_mk 1 1 2 [.int .i64 k, .slice a v.length c] rfl (Nat.le_refl _) (by unfold maxLen; omega) rfl rfl
  have h2 := h1.p1.tell (p := fun I => (rPairQ.rows 2).rel I [.int .i64 k, .slice a v.length c] [(k, v)]) (hp := fun _ _ hl => (rPairQ.rows 2).mono hl) (rows_one (R := rPairQ) ⟨a, c, rfl, hr⟩ rfl)
  have h2' : Sat W (w.alloc (.cells #[.int .i64 k, .slice a v.length c] 34)) (sep (osl 34 2 (some ⟨w.heap.size, 0, none⟩) 1 1 [.int .i64 k, .slice a v.length c]) (sep ((rPairQ.rows 2).is [.int .i64 k, .slice a v.length c] [(k, v)]) (sep (kn J) A))) := by
    have : Sat W (w.alloc (.cells #[.int .i64 k, .slice a v.length c] 34)) (sep ((rPairQ.rows 2).is [.int .i64 k, .slice a v.length c] [(k, v)]) (sep (kn J) (sep (osl 34 2 (some ⟨w.heap.size, 0, none⟩) 1 1 [.int .i64 k, .slice a v.length c]) A))) := h2
    simpa only [sep_comm, sep_lcomm, sep_assoc] using this
  have h3 := Sat.slice_of_osl (R := rPairQ) (xs := [(k, v)]) h2' rfl
  exact h3.learn
set_option maxRecDepth 100000 in
set_option maxHeartbeats 16000000 in
theorem authmapHash_walk (a0 : Int) (a1 : Option Addr) (len1 cap1 : Nat) (z1 : List Int) (w : World) (hW : WholeOK w)
    (w0 : (Lit.int .i64 a0).wf = true) (w1 : IsArgB w a1 len1 cap1 z1) :
    Calls Tryd.prog 4 #[.int .i64 a0, .slice a1 len1 cap1] w fun e w' => e = .returned (.bool true) ∧ Below w.heap.size w w' := by
  obtain ⟨l, hl, hrel⟩ := argB w1
  have hq := qkey_spec a0 (i64_of_wf w0) (Sat.startKn w)
  have hkr := keyQ_range a0
  obtain ⟨k, hk⟩ : ∃ k, k = keyQ a0 := ⟨_, rfl⟩
  rw [← hk] at hq hkr
  have HQ := Lib.hid hq
  have HW := Lib.hid (And.intro hW (And.intro hl hrel))
  clear w0 w1 hq hk hW hl hrel
  go_enter Tryd.func4, Tryd.ntmps4
  go_wp2_with fail
  refine HQ.out.mono ?_
  rintro e w1 ⟨rfl, h1⟩
  have hrl := HW.out.2.2
  obtain ⟨hr1, hr2, hr3⟩ := rel_src' hrl
  have hrl2 := HW.out.2.1
  have hfw := few_any a1 cap1 l 40 h1 (by rw [← hrl2]; exact hr2) (hr3 w1 h1.ext) (by omega)
  rw [← hrl2] at hfw
  obtain ⟨v, hv⟩ : ∃ v, v = l.take 40 := ⟨_, rfl⟩
  have hvl : v.length ≤ 40 := by rw [hv, List.length_take]; omega
  rw [← hv] at hfw
  obtain ⟨vl, hvle⟩ : ∃ vl, vl = v.length := ⟨_, rfl⟩
  rw [← hvle] at hfw hvl
  have HF := Lib.hid hfw
  have HVL := Lib.hid hvle
  clear HQ h1 hrl hr1 hr2 hr3 hrl2 hfw hv hvle
  go_wp2_with fail
  refine HF.out.mono ?_
  rintro e w2 ⟨fa, fc, rfl, h2⟩
  obtain ⟨J, hJ, hrv, h3⟩ := osl_learnQ h2 HVL.out
  obtain ⟨K, hK, hpl, h4⟩ := pair_lit k v fa vl fc HVL.out h3 hrv
  have hfi := filled_spec HW.out.1 _ 1 1 [(k, v)] h4 hpl rfl (by omega) (by
    intro x hx
    simp only [List.mem_singleton] at hx
    subst hx
    exact ⟨hkr, by have := HVL.out; dsimp only; omega⟩)
  have HFI := Lib.hid hfi
  have HJ := Lib.hid (And.intro hJ (And.intro hrv hK))
  clear HF h2 h3 h4 hfi hJ hrv hK hpl
  go_wp2_with fail
  refine HFI.out.mono ?_
  rintro e w3 ⟨p, rfl, h5⟩
  have h6 : Sat w w3 (sep (kn K) (sep (isAM p (oneM k v)) emp)) := by
    have := h5
    simpa only [fillM, List.foldl_cons, List.foldl_nil, oneM, sep_comm, sep_lcomm, sep_assoc] using this
  have e5 : (⟨#[118, 97, 108, 117, 101]⟩ : ByteArray).data.toList = valueL := rfl
  have e4 : (⟨#[112, 97, 105, 114]⟩ : ByteArray).data.toList = pairL := rfl
  have H1 := hbytes_any ⟨#[118, 97, 108, 117, 101]⟩ (.slice fa vl fc) v h6 (rBytes.mono HJ.out.2.2 HJ.out.2.1) (by decide) (by have := HVL.out; omega)
  rw [e5] at H1
  have HWl : leafN k v = sumN pairL [k, (v.length : Int), wrap64 ((bytesN valueL v : Nat) : Int)] := rfl
  obtain ⟨hh, hhe⟩ : ∃ hh, hh = bytesN valueL v := ⟨_, rfl⟩
  rw [← hhe] at H1 HWl
  obtain ⟨z2, hz2⟩ : ∃ z, wrap64 (hh : Int) = z := ⟨_, rfl⟩
  rw [hz2, ← HVL.out] at HWl
  have HWW := Lib.hid HWl
  have H1' := Lib.hid H1
  clear HFI h5 h6 H1 HWl hhe
  go_wp2_with fail
  refine H1'.out.mono ?_
  rintro e w4 ⟨rfl, h7⟩
  clear H1'
  have H2a := (sum_spec ⟨#[112, 97, 105, 114]⟩ (some ⟨w4.heap.size, 0, none⟩) 3 [k, (vl : Int), z2] (w4.alloc (.cells #[.int .i64 k, .int .i64 (vl : Int), .int .i64 z2] 3)) (by decide) (by simp) (fun _ => ⟨w4.heap.size, 0, rfl, by simp, fun j hj => by
    have hj2 : j < 3 := hj
    have := new_src w4 [.int .i64 k, .int .i64 (vl : Int), .int .i64 z2] 3 j
    match j, hj2 with
    | 0, _ => exact this _ rfl
    | 1, _ => exact this _ rfl
    | 2, _ => exact this _ rfl⟩))
  rw [e4, ← HWW.out] at H2a
  obtain ⟨hf, hhf⟩ : ∃ hf : Nat → Nat, hf = hOf k v := ⟨_, rfl⟩
  have ehf : leafN k v = hf 0 := by rw [hhf]; rfl
  rw [ehf] at H2a
  have H2 := Lib.hid H2a
  have HHF := Lib.hid hhf
  have hS2 := h7.alloc0 (.cells #[.int .i64 k, .int .i64 (vl : Int), .int .i64 z2] 3)
  clear H2a e4 e5 h7 ehf hhf
  go_wp2_with fail
  refine H2.out.mono ?_
  rintro e w5 ⟨rfl, hb⟩
  have h8 := hS2.of_below hb
  have HJK := Lib.hid (Mem.le_trans HJ.out.1 HJ.out.2.2)
  have h9 : Sat w w5 (sep (isAM p (oneM k v)) (sep (kn (wm w)) emp)) := by
    have := h8.kn_mono HJK.out
    simpa only [sep_comm, sep_lcomm, sep_assoc] using this
  clear H2 hb hS2 h8
  go_wp2_with fail
  go_loopw [8, 9] (fun hv' iv' wr => ∃ i : Nat, i ≤ 12 ∧ iv' = .int .i64 (i : Nat) ∧ hv' = .int .u64 (hf i : Nat) ∧ Sat w wr (sep (isAM p (oneM k v)) (sep (kn (wm w)) emp))) (fun _ iv' _ => 12 - (intOf iv').toNat)
  case atStart => exact ⟨0, by omega, rfl, rfl, h9⟩
  case round =>
    clear h9
    obtain ⟨i, hi, rfl, rfl, hS⟩ := hrel
    by_cases hin : i < 12
    · have hinI : (i : Int) < 12 := by omega
      have HS := Lib.hid hS
      clear hS
      go_upto_if 38 with (fail)
      obtain ⟨z1, hz1⟩ : ∃ z, wrap64 ((hf i : Nat) : Int) = z := ⟨_, rfl⟩
      by_cases hp : atB k i % 2 = 0
      · have hb : ((k / 2 ^ i).tmod 2 == 0) = true := by
          rw [Int.tmod_eq_emod_of_nonneg (Int.ediv_nonneg hkr.1 (Int.le_of_lt (pow_pos2 i)))]
          unfold atB at hp
          simpa using hp
        have hnx : nodeN (hf i) 0 = hf (i + 1) := by rw [HHF.out, hOf, if_pos hp]
        have hnd : nodeN (hf i) 0 = sumN blockL [z1, 0] := by
          show sumN blockL [wrap64 ((hf i : Nat) : Int), wrap64 ((0 : Nat) : Int)] = _
          rw [hz1, show wrap64 ((0 : Nat) : Int) = 0 by unfold wrap64; omega]
        have H2a := (sum_spec ⟨#[98, 108, 111, 99, 107]⟩ (some ⟨wr.heap.size, 0, none⟩) 2 [z1, 0] (wr.alloc (.cells #[.int .i64 z1, .int .i64 0] 3)) (by decide) (by simp) (fun _ => ⟨wr.heap.size, 0, rfl, by simp, fun j hj => by
          have hj2 : j < 2 := hj
          have := new_src wr [.int .i64 z1, .int .i64 0] 3 j
          match j, hj2 with
          | 0, _ => exact this _ rfl
          | 1, _ => exact this _ rfl⟩))
        rw [show (⟨#[98, 108, 111, 99, 107]⟩ : ByteArray).data.toList = blockL from rfl, ← hnd, hnx] at H2a
        have H2 := Lib.hid H2a
        have hS2 := HS.out.alloc0 (.cells #[.int .i64 z1, .int .i64 0] 3)
        have HS2 := Lib.hid hS2
        clear H2a hnx hnd hS2 hp
        go_wp2_with fail
        refine H2.out.mono ?_
        rintro e wb ⟨rfl, hb2⟩
        have hS3 := HS2.out.of_below hb2
        have HS3 := Lib.hid hS3
        clear H2 hb2 hS3 hb
        go_wp2_with fail
        go_roundw
        case rel => exact ⟨i + 1, by omega, rfl, rfl, HS3.out⟩
        case measure => simp only [intOf]; omega
      · have hb : ((k / 2 ^ i).tmod 2 == 0) = false := by
          rw [Int.tmod_eq_emod_of_nonneg (Int.ediv_nonneg hkr.1 (Int.le_of_lt (pow_pos2 i)))]
          unfold atB at hp
          simpa using hp
        have hnx : nodeN 0 (hf i) = hf (i + 1) := by rw [HHF.out, hOf, if_neg hp]
        have hnd : nodeN 0 (hf i) = sumN blockL [0, z1] := by
          show sumN blockL [wrap64 ((0 : Nat) : Int), wrap64 ((hf i : Nat) : Int)] = _
          rw [hz1, show wrap64 ((0 : Nat) : Int) = 0 by unfold wrap64; omega]
        have H2a := (sum_spec ⟨#[98, 108, 111, 99, 107]⟩ (some ⟨wr.heap.size, 0, none⟩) 2 [0, z1] (wr.alloc (.cells #[.int .i64 0, .int .i64 z1] 3)) (by decide) (by simp) (fun _ => ⟨wr.heap.size, 0, rfl, by simp, fun j hj => by
          have hj2 : j < 2 := hj
          have := new_src wr [.int .i64 0, .int .i64 z1] 3 j
          match j, hj2 with
          | 0, _ => exact this _ rfl
          | 1, _ => exact this _ rfl⟩))
        rw [show (⟨#[98, 108, 111, 99, 107]⟩ : ByteArray).data.toList = blockL from rfl, ← hnd, hnx] at H2a
        have H2 := Lib.hid H2a
        have hS2 := HS.out.alloc0 (.cells #[.int .i64 0, .int .i64 z1] 3)
        have HS2 := Lib.hid hS2
        clear H2a hnx hnd hS2 hp
        go_wp2_with fail
        refine H2.out.mono ?_
        rintro e wb ⟨rfl, hb2⟩
        have hS3 := HS2.out.of_below hb2
        have HS3 := Lib.hid hS3
        clear H2 hb2 hS3 hb
        go_wp2_with fail
        go_roundw
        case rel => exact ⟨i + 1, by omega, rfl, rfl, HS3.out⟩
        case measure => simp only [intOf]; omega
    · obtain rfl : i = 12 := by omega
      have hrt := aroot_spec HW.out.1 p (oneM k v) hS
      rw [root_one v hkr.1 hkr.2, ← HHF.out] at hrt
      have HRT := Lib.hid hrt
      clear hS hrt
      go_wp2_with fail
      refine HRT.out.mono ?_
      rintro e w6 ⟨rfl, h10⟩
      have hdl := adel_ok HW.out.1 p (oneM k v) k h10 hkr (by rw [oneM, fset, if_pos rfl]; rfl)
      rw [oneM_del] at hdl
      have HDL := Lib.hid hdl
      clear HRT h10 hdl
      go_wp2_with fail
      refine HDL.out.mono ?_
      rintro e w7 ⟨rfl, h11⟩
      have hr2 := aroot_spec HW.out.1 p M0 h11
      rw [root_M0] at hr2
      have HR2 := Lib.hid hr2
      clear HDL h11 hr2
      go_wp2_with fail
      refine HR2.out.mono ?_
      rintro e w8 ⟨rfl, h12⟩
      have hlv := lives33_spec HW.out.1 (show Sat w w8 (sep (kn (wm w)) (sep (isAM p M0) emp)) by simpa only [sep_comm, sep_lcomm, sep_assoc] using h12)
      have HLV := Lib.hid hlv
      clear HR2 h12 hlv
      go_wp2_with fail
      refine HLV.out.mono ?_
      rintro e w9 ⟨rfl, h13⟩
      go_wp2_with fail
      go_ret
      exact ⟨rfl, h13.below⟩
end Go.Proofs.YtcmjbjlliehdiaaDoor
