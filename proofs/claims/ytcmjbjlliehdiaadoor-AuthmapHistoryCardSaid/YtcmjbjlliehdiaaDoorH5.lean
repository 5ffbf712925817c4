/- The reference's hash of bytes. -/
import Derived.Test.YtcmjbjlliehdiaaDoorH4
namespace Go.Proofs.YtcmjbjlliehdiaaDoor
open Go.RowKit PA
set_option maxRecDepth 100000 in
set_option maxHeartbeats 2000000 in
theorem rhbytes_spec {W w : World} {A : Assn} {I : Mem} (s : ByteArray) (v : Value) (bs : List UInt8) (h : Sat W w (sep (kn I) A)) (hv : rBytes.rel I [v] bs) (hs : s.size ≤ 1073741824) (hb : bs.length ≤ 140737488351240) :
    Calls Tryd.prog 97 #[.string s, v] w fun e w' => e = .returned (.int .u64 (bytesN s.data.toList bs : Nat)) ∧ Sat W w' (sep (kn I) A) := by
  obtain ⟨ad, cp, rfl, _, _⟩ := bytes_rel.1 hv
  have HV := Lib.hid hv
  have HS := Lib.hid hs
  have HB := Lib.hid hb
  obtain ⟨n0, hn0⟩ : ∃ n0, n0 = bs.length := ⟨_, rfl⟩
  rw [← hn0] at HV ⊢
  have HN := Lib.hid hn0
  clear hv hs hb hn0
  go_enter Tryd.func97, Tryd.ntmps97
  go_wp2_with fail
  refine (rwords_spec _ bs h HV.out HB.out).mono ?_
  rintro e w2 ⟨a, c, rfl, hS2⟩
  obtain ⟨m, hm⟩ : ∃ m, m = (wordsN bs).length := ⟨_, rfl⟩
  have hmI : (m : Int) ≤ 17592186043906 := by rw [hm, wordsN_length]; have := HB.out; omega
  rw [← hm] at hS2 ⊢
  obtain ⟨K, hle, hK, hS3⟩ := hS2.osl_settle.learn
  have HK := Lib.hid hK
  have HM := Lib.hid hm
  have HLE := Lib.hid hle
  clear h hS2 hK hm hle
  go_wp2_with fail
  go_loopw [6, 7] (fun lv kv wr => ∃ k : Nat, k ≤ m ∧ kv = .int .i64 k ∧ ∃ a2 c2, lv = .slice a2 k c2 ∧ Sat W wr (sep (osl 3 1 a2 k c2 (((wordsN bs).map fun x : Nat => iv (wrap64 (x : Int))).take k)) (sep (kn K) A))) (fun _ kv _ => m - (intOf kv).toNat)
  case atStart => exact ⟨0, Nat.zero_le _, rfl, none, 0, rfl, hS3.osl_nil _ _⟩
  case round =>
    clear hS3
    obtain ⟨k, hk, rfl, a2, c2, rfl, hS⟩ := hrel
    by_cases hkm : k < m
    · have hkw : k < (wordsN bs).length := by rw [← HM.out]; exact hkm
      obtain ⟨b, o, rfl, hcc⟩ := cells_ext HK.out (fun e => by have := congrArg List.length e; simp at this; rw [this] at hkw; simp at hkw)
      obtain ⟨x, hx⟩ : ∃ x, x = (wordsN bs)[k] := ⟨_, rfl⟩
      have hc := hcc _ hS.p1.ext k (uv x) (by rw [List.getElem?_map, List.getElem?_eq_getElem hkw, hx]; rfl)
      unfold uv at hc
      obtain ⟨z, hz⟩ : ∃ z, wrap64 (x : Int) = z := ⟨_, rfl⟩
      have HX := Lib.hid hx
      have hkI : (k : Int) < m := by omega
      have hkb : k ≤ 17592186043906 := by omega
      have HKB := Lib.hid hkb
      have hB := hS.alloc0 (.cells #[.int .i64 z] 3)
      clear hx hcc hkb hS
      go_wp2_with (at_builtin; (refine wpl_append_osl rfl (.tmp 16) (.tmp 22) 22 rfl 3 1 8 (.int .i64 0) Tryd.underlying22 infoI rfl rfl hB rfl [.int .i64 z] rfl (by simp) (by intro b hb; cases hb; exact new_src _ [_] _) (by simp [Value.oneCell']) (by have := HKB.out; omega) (by have := HKB.out; unfold maxLen; omega) ?_))
      intro a3 c3 w3 hS4
      go_wp2_with fail
      go_roundw
      case rel =>
        refine ⟨k + 1, by omega, by go_num, a3, c3, rfl, ?_⟩
        have e1 : ((wordsN bs).map (fun x : Nat => iv (wrap64 (x : Int)))).take (k + 1) = ((wordsN bs).map (fun x : Nat => iv (wrap64 (x : Int)))).take k ++ [.int .i64 z] := by
          rw [List.take_succ_eq_append_getElem (by rw [List.length_map]; exact hkw), List.getElem_map, ← HX.out, hz]; rfl
        rw [e1]; exact hS4
      case measure => simp [intOf]; omega
    · obtain rfl : k = m := by omega
      have hkI : ¬ (k : Int) < k := by omega
      have hkb : k ≤ 17592186043906 := by omega
      have HKB := Lib.hid hkb
      have hB := hS.alloc0 (.cells #[.int .i64 (n0 : Int)] 3)
      clear hkb hS
      go_wp2_with (at_builtin; (refine wpl_append_osl rfl (.tmp 25) (.tmp 28) 22 rfl 3 1 8 (.int .i64 0) Tryd.underlying22 infoI rfl rfl hB rfl [.int .i64 (n0 : Int)] rfl (by simp) (by intro b hb; cases hb; exact new_src _ [_] _) (by simp [Value.oneCell']) (by have := HKB.out; omega) (by have := HKB.out; unfold maxLen; omega) ?_))
      intro a3 c3 w3 hS4
      obtain ⟨ns, hns⟩ : ∃ ns : List Int, ns = (wordsN bs).map (fun x : Nat => wrap64 (x : Int)) ++ [(n0 : Int)] := ⟨_, rfl⟩
      have hnl : ns.length = k + 1 := by rw [hns, List.length_append, List.length_map, HM.out]; rfl
      have e1 : ((wordsN bs).map (fun x : Nat => iv (wrap64 (x : Int)))).take k ++ [.int .i64 (n0 : Int)] = ns.map iv := by
        rw [hns, HM.out, List.take_of_length_le (by rw [List.length_map]; exact Nat.le_refl _), List.map_append, List.map_map]; rfl
      rw [e1] at hS4
      obtain ⟨L, hle2, hL, hS5⟩ := hS4.osl_settle.learn
      have hsv : sumN s.data.toList ns = bytesN s.data.toList bs := by rw [hns, HN.out]; exact sum_bytes _ _ HB.out
      have hsum := rsum_spec s a3 c3 ns hS5 HS.out (by have := HKB.out; omega) hL
      rw [hnl, hsv] at hsum
      obtain ⟨r, hr⟩ : ∃ r, r = bytesN s.data.toList bs := ⟨_, rfl⟩
      rw [← hr] at hsum
      have HR := Lib.hid hr
      clear hr
      have HSUM := Lib.hid hsum
      have hle3 := Lib.hid (Mem.le_trans HLE.out hle2)
      clear hsum hsv hns hnl e1 hS4 hS5 hL hB hle2
      go_wp2_with fail
      refine HSUM.out.mono ?_
      rintro e w4 ⟨rfl, hS6⟩
      go_wp2_with fail
      go_ret
      exact ⟨by rw [← HR.out]; rfl, hS6.kn_mono hle3.out⟩
end Go.Proofs.YtcmjbjlliehdiaaDoor
