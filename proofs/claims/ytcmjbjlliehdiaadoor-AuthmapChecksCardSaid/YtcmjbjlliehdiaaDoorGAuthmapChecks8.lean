/- The reference's hash: Words, Sum, Bytes; both hashes as contracts over assertions. -/
import Derived.Test.YtcmjbjlliehdiaaDoorGAuthmapChecks7
import Derived.LoopTactic
import Derived.Handy
namespace Go.Proofs.YtcmjbjlliehdiaaDoor
open Go.RowKit PA
theorem hbytes_any {W w : World} {A : Assn} {I : Mem} (s : ByteArray) (v : Value) (bs : List UInt8) (h : Sat W w (sep (kn I) A)) (hv : rBytes.rel I [v] bs) (hs : s.size ≤ 4611686018427387904) (hb : bs.length ≤ 140737488351240) :
    Calls Tryd.prog 27 #[.string s, v] w fun e w' => e = .returned (.int .u64 (bytesN s.data.toList bs : Nat)) ∧ Sat W w' (sep (kn I) A) := by
  obtain ⟨a, c, rfl, _, hc⟩ := bytes_rel.1 hv
  refine (hbytes_spec s a c bs w hs hb fun hne => ?_).mono fun e w' ⟨h1, h2⟩ => ⟨h1, h.of_below h2⟩
  obtain ⟨b, o, e, hcc⟩ := bytes_cells hc hne
  obtain ⟨b', o', e', hlt⟩ := cells_lt hc h.ext (by simpa using hne)
  rw [e] at e'; cases e'
  exact ⟨b, o, e, hlt, fun j hj => hcc w h.ext j hj⟩
theorem infoU64 : (Tryd.prog.info? 43).map (fun i => (i.zero, i.size, i.bytes)) = some (some (.int .u64 0), 1, 8) := by kernel_rfl
def uv (x : Nat) : Value := .int .u64 (x : Nat)
theorem word_last (bs : List UInt8) (i j : Nat) (h1 : i ≤ j) (h2 : j < bs.length) : (bs.drop j).take 1 = [bs[j]] := by
  rw [List.take_one, List.head?_drop]; simp [h2]
theorem leN_part (bs : List UInt8) (j e : Nat) (hj : j < e) (he : e ≤ bs.length) : leN ((bs.drop j).take (e - j)) = bs[j].toNat + 256 * leN ((bs.drop (j + 1)).take (e - (j + 1))) := by
  rw [List.drop_eq_getElem_cons (by omega), show e - j = (e - (j + 1)) + 1 by omega, List.take_succ_cons, leN]
set_option maxRecDepth 100000 in
set_option maxHeartbeats 2000000 in
theorem rwords_spec {W w : World} {A : Assn} {I : Mem} (v : Value) (bs : List UInt8) (h : Sat W w (sep (kn I) A)) (hv : rBytes.rel I [v] bs) (hb : bs.length ≤ 140737488351240) :
    Calls Tryd.prog 101 #[v] w fun e w' => ∃ a c, e = .returned (.slice a (wordsN bs).length c) ∧ Sat W w' (sep (osl 43 1 a (wordsN bs).length c ((wordsN bs).map uv)) (sep (kn I) A)) := by
  obtain ⟨ad, cp, rfl, _, hcs⟩ := bytes_rel.1 hv
  obtain ⟨n0, hn0⟩ : ∃ n0, n0 = bs.length := ⟨_, rfl⟩
  rw [← hn0] at hb ⊢
  have hbI : (n0 : Int) ≤ 140737488351240 := by omega
  have HN := Lib.hid hn0
  have HB := Lib.hid hb
  clear hn0 hb hv
  go_enter Tryd.func101, Tryd.ntmps101
  go_wp2
  go_loopw [3, 4] (fun ov iv wr => ∃ k : Nat, k ≤ (n0 + 7) / 8 ∧ iv = .int .i64 (8 * k : Nat) ∧ ∃ a c, ov = .slice a k c ∧ Sat W wr (sep (osl 43 1 a k c (((List.range k).map (wordN bs)).map uv)) (sep (kn I) A))) (fun _ iv _ => n0 + 8 - (intOf iv).toNat)
  case atStart => exact ⟨0, Nat.zero_le _, rfl, none, 0, rfl, h.osl_nil _ _⟩
  case round =>
    clear h
    obtain ⟨k, hk, rfl, a, c, rfl, hS⟩ := hrel
    obtain ⟨i, hi⟩ : ∃ i, i = 8 * k := ⟨_, rfl⟩
    rw [← hi]
    by_cases hlt : i < n0
    · obtain ⟨b, o, rfl, hcells⟩ := bytes_cells hcs (fun e => by rw [e] at HN; have := HN.out; simp at this; omega)
      have hext := hS.p1.ext
      have hc := hcells wr hext
      have HC := Lib.hid hc
      clear hcells hc hext hcs
      have hi0 : (0 : Int) ≤ i := by omega
      have hi1 : (i : Int) + 8 ≤ 140737488351300 := by omega
      have hltI : (i : Int) < n0 := by omega
      obtain ⟨e, he⟩ : ∃ e, e = min (i + 8) n0 := ⟨_, rfl⟩
      have hmin : (if (n0 : Int) < (i : Int) + 8 then (n0 : Int) else (i : Int) + 8) = (e : Int) := by split <;> omega
      have he0 : (i : Int) < e := by omega
      have he2 : (e : Int) ≤ 140737488351240 := by omega
      have he1 : i < e ∧ e ≤ i + 8 ∧ e ≤ n0 := by omega
      have HE := Lib.hid he
      have HI := Lib.hid hi
      have HE1 := Lib.hid he1
      have HK := Lib.hid hk
      clear hi he he1 hlt hk
      go_wp2
      go_loop [5, 6] (fun wv jv => ∃ j : Nat, i ≤ j ∧ j ≤ e ∧ jv = .int .i64 ((j : Int) - 1) ∧ wv = .int .u64 (leN ((bs.drop j).take (e - j)) : Nat)) (fun _ jv => (intOf jv + 1).toNat)
      case atStart => exact ⟨e, by have := HE1.out; omega, Nat.le_refl _, rfl, by simp [leN]⟩
      case round =>
        obtain ⟨j, hj1, hj2, rfl, rfl⟩ := hrel
        have HJ2 := Lib.hid hj2
        clear hj2
        by_cases hji : i < j
        · obtain ⟨j, rfl⟩ : ∃ j', j = j' + 1 := ⟨j - 1, by omega⟩
          have hjn : j < bs.length := by have := HE1.out; have := HJ2.out; have := HN.out; omega
          have hcj := HC.out j hjn
          have hpart := leN_part bs j e (by have := HJ2.out; omega) (by have := HE1.out; have := HN.out; omega)
          obtain ⟨x, hx⟩ : ∃ x, x = leN ((bs.drop (j + 1)).take (e - (j + 1))) := ⟨_, rfl⟩
          have hxl : x * 256 + 255 < 18446744073709551616 := by
            have h1 := leN_lt ((bs.drop (j + 1)).take (e - (j + 1)))
            rw [← hx] at h1
            have h2 : ((bs.drop (j + 1)).take (e - (j + 1))).length ≤ 7 := by rw [List.length_take]; have := HE1.out; omega
            have h3 : x < 256 ^ 7 := Nat.lt_of_lt_of_le h1 (Nat.pow_le_pow_right (by decide) h2)
            omega
          rw [← hx] at hpart ⊢
          obtain ⟨y, hy⟩ : ∃ y, y = bs[j].toNat := ⟨_, rfl⟩
          have hyl : y < 256 := by rw [hy]; exact bs[j].toNat_lt
          rw [← hy] at hcj hpart
          have e1 : IntKind.u64.wrap (256 * (x : Int)) = 256 * (x : Int) := wraps_u64 _ (by omega) (by omega)
          have e2 : IntKind.u64.wrap (y : Int) = (y : Int) := wraps_u64 _ (by omega) (by omega)
          have e3 : IntKind.u64.wrap (256 * (x : Int) + (y : Int)) = 256 * (x : Int) + (y : Int) := wraps_u64 _ (by omega) (by omega)
          have e4 : (((j + 1 : Nat) : Int) - 1) = (j : Int) := by omega
          have e5 : (i : Int) ≤ (j : Int) := by omega
          have e6 : (j : Int) < (n0 : Int) := by have := HN.out; omega
          have HP := Lib.hid hpart
          have HX := Lib.hid hx
          have HY := Lib.hid hy
          rw [e4]
          clear hpart hx hy hxl hyl e4 hi1 hltI hmin he0 he2 hji hj1
          go_wp2
          go_round
          case rel => exact ⟨j, by omega, by have := HJ2.out; omega, rfl, by rw [HP.out]; congr 1; push_cast; omega⟩
          case measure => simp [intOf]
        · obtain rfl : j = i := by omega
          obtain ⟨x, hx⟩ : ∃ x, x = wordN bs k := ⟨_, rfl⟩
          have hxe : leN ((bs.drop j).take (e - j)) = x := by
            have := HE.out
            have := HI.out
            have := HN.out
            rw [hx, wordN, ← HI.out]
            by_cases h8 : j + 8 ≤ n0
            · rw [show e - j = 8 by omega]
            · rw [List.take_of_length_le (by rw [List.length_drop]; omega), List.take_of_length_le (by rw [List.length_drop]; omega)]
          rw [hxe]
          have hge : ¬ (j : Int) ≤ (j : Int) - 1 := by omega
          have HX := Lib.hid hx
          have hB := hS.alloc0 (.cells #[.int .u64 (x : Nat)] 43)
          have hkb : k ≤ 17592186043906 := by have := HI.out; omega
          have HKB := Lib.hid hkb
          clear hx hxe hji hj1 hS hkb hmin he0 he2 hi1
          go_wp2_with (at_builtin; (refine wpl_append_osl rfl (.tmp 32) (.tmp 34) 38 rfl 43 1 8 (.int .u64 0) Tryd.underlying38 infoU64 rfl rfl hB rfl [.int .u64 (x : Nat)] rfl (by simp) (by intro b hb; cases hb; exact new_src _ [_] _) (by simp [Value.oneCell']) (by have := HKB.out; omega) (by have := HKB.out; unfold maxLen; omega) ?_))
          intro a2 c2 w2 hS2
          go_wp2
          go_roundw
          case rel =>
            refine ⟨k + 1, by have := HE1.out; have := HI.out; omega, by rw [HI.out]; go_num, a2, c2, rfl, ?_⟩
            rw [List.range_succ, List.map_append, List.map_append, List.map_cons, List.map_nil, List.map_cons, List.map_nil, ← HX.out]
            rw [← List.map_map] at hS2; exact hS2
          case measure => simp [intOf]; omega
    · have hge : ¬ (i : Int) < n0 := by omega
      have hk' : k = (n0 + 7) / 8 := by omega
      have hl : k = (wordsN bs).length := by rw [wordsN_length, ← HN.out, hk']
      have HL := Lib.hid hl
      have HK := Lib.hid hk'
      clear hk' hl hi hk hlt
      go_wp2
      go_ret
      have e : (List.range k).map (wordN bs) = wordsN bs := by rw [wordsN, ← HN.out, ← HK.out]
      rw [e, HL.out] at hS
      rw [HL.out]
      exact ⟨a, c, rfl, hS⟩
set_option maxRecDepth 100000 in
set_option maxHeartbeats 2000000 in
theorem rsum_spec {W w : World} {A : Assn} {I : Mem} (s : ByteArray) (ad : Option Addr) (cp : Nat) (ns : List Int) (h : Sat W w (sep (kn I) A)) (hs : s.size ≤ 1073741824) (hn : ns.length ≤ 17592186044000) (hl : cellsAt ad (ns.map iv) I) :
    Calls Tryd.prog 91 #[.string s, .slice ad ns.length cp] w fun e w' => e = .returned (.int .u64 (sumN s.data.toList ns : Nat)) ∧ Sat W w' (sep (kn I) A) := by
  have kc := fun (w : World) => Lib.run_convert_string_bytes (P := Tryd.prog) w 9 32 5 s Tryd.underlying9 Tryd.underlying32 Tryd.underlying5
  obtain ⟨J, hle, hJ, hS1⟩ := h.conv_bytes 5 s (by unfold maxLen; omega)
  have hl1 := cellsAt_mono hle hl
  have hslen : s.data.toList.length = s.size := by simp
  have hwl : (wordsN s.data.toList).length ≤ 1073741824 := by rw [wordsN_length, hslen]; omega
  have hsI : (s.size : Int) ≤ 1073741824 := by omega
  obtain ⟨n0, hn0⟩ : ∃ n0, n0 = ns.length := ⟨_, rfl⟩
  rw [← hn0] at hn ⊢
  have hnI : (n0 : Int) ≤ 17592186044000 := by omega
  have hw1 : IntKind.u64.wrap (s.size : Int) = (s.size : Nat) := wraps_u64 _ (by omega) (by omega)
  have hw2 : IntKind.u64.wrap (n0 : Int) = (n0 : Nat) := wraps_u64 _ (by omega) (by omega)
  have HS := Lib.hid hs
  have HN := Lib.hid hn
  have HN0 := Lib.hid hn0
  have HL := Lib.hid hl1
  have HJ := Lib.hid hJ
  have HSL := Lib.hid hslen
  have HWL := Lib.hid hwl
  clear hs hn hl hl1 h hJ hslen hn0 hwl
  go_enter Tryd.func91, Tryd.ntmps91
  go_wp2_with fail
  refine (rwords_spec _ s.data.toList hS1 HJ.out (by rw [HSL.out]; have := HS.out; omega)).mono ?_
  rintro e w2 ⟨a, c, rfl, hS2⟩
  obtain ⟨m, hm⟩ : ∃ m, m = (wordsN s.data.toList).length := ⟨_, rfl⟩
  have hmI : (m : Int) ≤ 1073741824 := by rw [hm]; have := HWL.out; omega
  rw [← hm] at hS2 ⊢
  obtain ⟨K, hle2, hK, hS3⟩ := hS2.osl_settle.learn
  have hl2 := cellsAt_mono hle2 HL.out
  have HL2 := Lib.hid hl2
  have HK := Lib.hid hK
  have HM := Lib.hid hm
  have hle3 := Lib.hid (Mem.le_trans hle hle2)
  clear hS1 hS2 HL kc hK hm hle hle2 hl2
  go_wp2_with fail
  go_loop [5, 7] (fun sv kv => ∃ k : Nat, k ≤ m ∧ kv = .int .i64 k ∧ sv = .int .u64 (((wordsN s.data.toList).take k).foldl mixN 0 : Nat)) (fun _ kv => m - (intOf kv).toNat)
  case atStart => exact ⟨0, Nat.zero_le _, rfl, rfl⟩
  case round =>
    obtain ⟨k, hk, rfl, rfl⟩ := hrel
    obtain ⟨y, hy⟩ : ∃ y, y = ((wordsN s.data.toList).take k).foldl mixN 0 := ⟨_, rfl⟩
    have hyl : y < 18446744073709551616 := by rw [hy]; exact foldl_mix_lt _ 0 (by omega)
    rw [← hy]
    have HY := Lib.hid hy
    have HYL := Lib.hid hyl
    clear hy hyl
    by_cases hkm : k < m
    · have hkw : k < (wordsN s.data.toList).length := by rw [← HM.out]; exact hkm
      obtain ⟨b, o, rfl, hcc⟩ := cells_ext HK.out (fun e => by have := congrArg List.length e; simp at this; rw [this] at hkw; simp at hkw)
      obtain ⟨x, hx⟩ : ∃ x, x = (wordsN s.data.toList)[k] := ⟨_, rfl⟩
      have hc := hcc _ hS3.ext k (uv x) (by rw [List.getElem?_map, List.getElem?_eq_getElem hkw, hx]; rfl)
      have hxl : x < 18446744073709551616 := by rw [hx]; exact wordsN_lt _ _ (List.getElem_mem hkw)
      unfold uv at hc
      have HX := Lib.hid hx
      have HXL := Lib.hid hxl
      have hkI : (k : Int) < m := by omega
      clear hx hxl hcc
      go_wp2_with fail
      refine (rmix_spec y x _ HYL.out HXL.out).mono ?_
      rintro e w3 ⟨rfl, rfl⟩
      go_wp2_with fail
      go_round
      case rel =>
        refine ⟨k + 1, by omega, by go_num, ?_⟩
        rw [List.take_succ_eq_append_getElem hkw, List.foldl_append, ← HY.out, ← HX.out, List.foldl_cons, List.foldl_nil]
      case measure => simp [intOf]; omega
    · obtain rfl : k = m := by omega
      have hkI : ¬ (k : Int) < k := by omega
      go_wp2_with fail
      have HSZ : s.size < 18446744073709551616 := by have := HS.out; omega
      have HN2 : n0 < 18446744073709551616 := by have := HN.out; omega
      refine (rmix_spec y s.size _ HYL.out HSZ).mono ?_
      rintro e w3 ⟨rfl, rfl⟩
      obtain ⟨y1, hy1⟩ : ∃ y1, y1 = mixN y s.size := ⟨_, rfl⟩
      have hy1l : y1 < 18446744073709551616 := by rw [hy1]; exact mixN_lt _ _
      rw [← hy1]
      have HY1 := Lib.hid hy1
      have HY1L := Lib.hid hy1l
      clear hy1 hy1l HSZ
      go_wp2_with fail
      refine (rmix_spec y1 n0 _ HY1L.out HN2).mono ?_
      rintro e w3 ⟨rfl, rfl⟩
      obtain ⟨y2, hy2⟩ : ∃ y2, y2 = mixN y1 n0 := ⟨_, rfl⟩
      have hy2l : y2 < 18446744073709551616 := by rw [hy2]; exact mixN_lt _ _
      rw [← hy2]
      have HY2 := Lib.hid hy2
      have HY2L := Lib.hid hy2l
      clear hy2 hy2l HN2 hw1 hw2
      go_wp2_with fail
      go_loop [5, 8] (fun sv kv => ∃ k : Nat, k ≤ n0 ∧ kv = .int .i64 k ∧ sv = .int .u64 (((ns.map u64N).take k).foldl mixN y2 : Nat)) (fun _ kv => n0 - (intOf kv).toNat)
      case atStart => exact ⟨0, Nat.zero_le _, rfl, rfl⟩
      case round =>
        obtain ⟨j, hj, rfl, rfl⟩ := hrel
        obtain ⟨z, hz⟩ : ∃ z, z = ((ns.map u64N).take j).foldl mixN y2 := ⟨_, rfl⟩
        have hzl : z < 18446744073709551616 := by rw [hz]; exact foldl_mix_lt _ _ HY2L.out
        rw [← hz]
        have HZ := Lib.hid hz
        have HZL := Lib.hid hzl
        clear hz hzl
        by_cases hjn : j < n0
        · have hjw : j < ns.length := by rw [← HN0.out]; exact hjn
          obtain ⟨b, o, rfl, hcc⟩ := cells_ext HL2.out (fun e => by have := congrArg List.length e; simp at this; rw [this] at hjw; simp at hjw)
          obtain ⟨x, hx⟩ : ∃ x, x = ns[j] := ⟨_, rfl⟩
          have hc := hcc _ hS3.ext j (iv x) (by rw [List.getElem?_map, List.getElem?_eq_getElem hjw, hx]; rfl)
          unfold iv at hc
          have hwx := u64N_wrap x
          have HX := Lib.hid hx
          have HXL := Lib.hid (u64N_lt x)
          have hjI : (j : Int) < n0 := by omega
          clear hx hcc
          go_wp2_with fail
          refine (rmix_spec z (u64N x) _ HZL.out HXL.out).mono ?_
          rintro e w3 ⟨rfl, rfl⟩
          go_wp2_with fail
          go_round
          case rel =>
            refine ⟨j + 1, by omega, by go_num, ?_⟩
            have hjw2 : j < (ns.map u64N).length := by rw [List.length_map]; exact hjw
            rw [List.take_succ_eq_append_getElem hjw2, List.foldl_append, ← HZ.out, List.getElem_map, ← HX.out, List.foldl_cons, List.foldl_nil]
          case measure => simp [intOf]; omega
        · obtain rfl : j = n0 := by omega
          have hjI : ¬ (j : Int) < j := by omega
          go_wp2_with fail
          refine (rmix_spec z 0 _ HZL.out (by omega)).mono ?_
          rintro e w3 ⟨rfl, rfl⟩
          go_wp2_with fail
          go_ret
          refine ⟨ret_int ?_, hS3.kn_mono hle3.out⟩
          rw [sumN, sumU, List.length_map, ← HN0.out, HSL.out]
          rw [HM.out, List.take_length] at HY
          rw [HN0.out, show ns.length = (ns.map u64N).length by simp, List.take_length] at HZ
          rw [← HY.out, ← HY1.out, ← HY2.out, ← HZ.out]
end Go.Proofs.YtcmjbjlliehdiaaDoor
/- The reference's hash of bytes. -/
namespace Go.Proofs.YtcmjbjlliehdiaaDoor
open Go.RowKit PA
set_option maxRecDepth 100000 in
set_option maxHeartbeats 2000000 in
theorem rhbytes_spec {W w : World} {A : Assn} {I : Mem} (s : ByteArray) (v : Value) (bs : List UInt8) (h : Sat W w (sep (kn I) A)) (hv : rBytes.rel I [v] bs) (hs : s.size ≤ 1073741824) (hb : bs.length ≤ 140737488351240) :
    Calls Tryd.prog 97 #[.string s, v] w fun e w' => e = .returned (.int .u64 (bytesN s.data.toList bs : Nat)) ∧ Sat W w' (sep (kn I) A) := by
  obtain ⟨ad, cp, rfl, _, _⟩ := bytes_rel.1 hv
  have HV := Lib.hid hv
  have HS := Lib.hid hs
  have HB := Lib.hid hb
  obtain ⟨n0, hn0⟩ : ∃ n0, n0 = bs.length := ⟨_, rfl⟩
  rw [← hn0] at HV ⊢
  have HN := Lib.hid hn0
  clear hv hs hb hn0
  go_enter Tryd.func97, Tryd.ntmps97
  go_wp2_with fail
  refine (rwords_spec _ bs h HV.out HB.out).mono ?_
  rintro e w2 ⟨a, c, rfl, hS2⟩
  obtain ⟨m, hm⟩ : ∃ m, m = (wordsN bs).length := ⟨_, rfl⟩
  have hmI : (m : Int) ≤ 17592186043906 := by rw [hm, wordsN_length]; have := HB.out; omega
  rw [← hm] at hS2 ⊢
  obtain ⟨K, hle, hK, hS3⟩ := hS2.osl_settle.learn
  have HK := Lib.hid hK
  have HM := Lib.hid hm
  have HLE := Lib.hid hle
  clear h hS2 hK hm hle
  go_wp2_with fail
  go_loopw [6, 7] (fun lv kv wr => ∃ k : Nat, k ≤ m ∧ kv = .int .i64 k ∧ ∃ a2 c2, lv = .slice a2 k c2 ∧ Sat W wr (sep (osl 3 1 a2 k c2 (((wordsN bs).map fun x : Nat => iv (wrap64 (x : Int))).take k)) (sep (kn K) A))) (fun _ kv _ => m - (intOf kv).toNat)
  case atStart => exact ⟨0, Nat.zero_le _, rfl, none, 0, rfl, hS3.osl_nil _ _⟩
  case round =>
    clear hS3
    obtain ⟨k, hk, rfl, a2, c2, rfl, hS⟩ := hrel
    by_cases hkm : k < m
    · have hkw : k < (wordsN bs).length := by rw [← HM.out]; exact hkm
      obtain ⟨b, o, rfl, hcc⟩ := cells_ext HK.out (fun e => by have := congrArg List.length e; simp at this; rw [this] at hkw; simp at hkw)
      obtain ⟨x, hx⟩ : ∃ x, x = (wordsN bs)[k] := ⟨_, rfl⟩
      have hc := hcc _ hS.p1.ext k (uv x) (by rw [List.getElem?_map, List.getElem?_eq_getElem hkw, hx]; rfl)
      unfold uv at hc
      obtain ⟨z, hz⟩ : ∃ z, wrap64 (x : Int) = z := ⟨_, rfl⟩
      have HX := Lib.hid hx
      have hkI : (k : Int) < m := by omega
      have hkb : k ≤ 17592186043906 := by omega
      have HKB := Lib.hid hkb
      have hB := hS.alloc0 (.cells #[.int .i64 z] 3)
      clear hx hcc hkb hS
      go_wp2_with (at_builtin; (refine wpl_append_osl rfl (.tmp 16) (.tmp 22) 22 rfl 3 1 8 (.int .i64 0) Tryd.underlying22 infoI rfl rfl hB rfl [.int .i64 z] rfl (by simp) (by intro b hb; cases hb; exact new_src _ [_] _) (by simp [Value.oneCell']) (by have := HKB.out; omega) (by have := HKB.out; unfold maxLen; omega) ?_))
      intro a3 c3 w3 hS4
      go_wp2_with fail
      go_roundw
      case rel =>
        refine ⟨k + 1, by omega, by go_num, a3, c3, rfl, ?_⟩
        have e1 : ((wordsN bs).map (fun x : Nat => iv (wrap64 (x : Int)))).take (k + 1) = ((wordsN bs).map (fun x : Nat => iv (wrap64 (x : Int)))).take k ++ [.int .i64 z] := by
          rw [List.take_succ_eq_append_getElem (by rw [List.length_map]; exact hkw), List.getElem_map, ← HX.out, hz]; rfl
        rw [e1]; exact hS4
      case measure => simp [intOf]; omega
    · obtain rfl : k = m := by omega
      have hkI : ¬ (k : Int) < k := by omega
      have hkb : k ≤ 17592186043906 := by omega
      have HKB := Lib.hid hkb
      have hB := hS.alloc0 (.cells #[.int .i64 (n0 : Int)] 3)
      clear hkb hS
      go_wp2_with (at_builtin; (refine wpl_append_osl rfl (.tmp 25) (.tmp 28) 22 rfl 3 1 8 (.int .i64 0) Tryd.underlying22 infoI rfl rfl hB rfl [.int .i64 (n0 : Int)] rfl (by simp) (by intro b hb; cases hb; exact new_src _ [_] _) (by simp [Value.oneCell']) (by have := HKB.out; omega) (by have := HKB.out; unfold maxLen; omega) ?_))
      intro a3 c3 w3 hS4
      obtain ⟨ns, hns⟩ : ∃ ns : List Int, ns = (wordsN bs).map (fun x : Nat => wrap64 (x : Int)) ++ [(n0 : Int)] := ⟨_, rfl⟩
      have hnl : ns.length = k + 1 := by rw [hns, List.length_append, List.length_map, HM.out]; rfl
      have e1 : ((wordsN bs).map (fun x : Nat => iv (wrap64 (x : Int)))).take k ++ [.int .i64 (n0 : Int)] = ns.map iv := by
        rw [hns, HM.out, List.take_of_length_le (by rw [List.length_map]; exact Nat.le_refl _), List.map_append, List.map_map]; rfl
      rw [e1] at hS4
      obtain ⟨L, hle2, hL, hS5⟩ := hS4.osl_settle.learn
      have hsv : sumN s.data.toList ns = bytesN s.data.toList bs := by rw [hns, HN.out]; exact sum_bytes _ _ HB.out
      have hsum := rsum_spec s a3 c3 ns hS5 HS.out (by have := HKB.out; omega) hL
      rw [hnl, hsv] at hsum
      obtain ⟨r, hr⟩ : ∃ r, r = bytesN s.data.toList bs := ⟨_, rfl⟩
      rw [← hr] at hsum
      have HR := Lib.hid hr
      clear hr
      have HSUM := Lib.hid hsum
      have hle3 := Lib.hid (Mem.le_trans HLE.out hle2)
      clear hsum hsv hns hnl e1 hS4 hS5 hL hB hle2
      go_wp2_with fail
      refine HSUM.out.mono ?_
      rintro e w4 ⟨rfl, hS6⟩
      go_wp2_with fail
      go_ret
      exact ⟨by rw [← HR.out]; rfl, hS6.kn_mono hle3.out⟩
end Go.Proofs.YtcmjbjlliehdiaaDoor
/- 'append' onto an owned row whose old slice is read again. Plain Lean, no program in sight. -/
namespace PA
open Go Go.RowKit
section
variable {P : Program} {W w : World} {A : Assn}
theorem run_append_keep (t ty E k by_ : Nat) (i : TypeInfo) (z : Value) (ht : P.underlying t = some (.slice E)) (hi : P.info? E = some i) (hz : i.zero = some z)
    (hk : i.size = k) (hb : i.bytes = by_) (hzs : z.cells.size = k) {a : Option Addr} {n c : Nat} {xs : List Value} (h : Sat W w (sep (osl E k a n c xs) A))
    (x : Option Addr) (m cc : Nat) (news : List Value) (hl : news.length = m * k) (hx0 : x = none → m = 0) (hx : ∀ b, x = some b → ∀ j u, news[j]? = some u → w.cell? (b.add j) = some u)
    (h1 : ∀ u ∈ news, u.oneCell' = true) (h63 : n + m ≤ maxLen) (hby : (n + m) * by_ ≤ 140737488355328) :
    ∃ a' c' w', (Builtin.append_ #[t, t] ty #[.slice a n c, .slice x m cc]).run P w = .ok (.slice a' (n + m) c') w' ∧
      ((a' = a ∧ c' = c ∧ Sat W w' (sep (osl E k a (n + m) c (xs ++ news)) A)) ∨ Sat W w' (sep (osl E k a' (n + m) c' (xs ++ news)) (sep (osl E k a n c xs) A))) := by
  subst hk
  subst hb
  have hsmall : n + m ≤ 9223372036854775807 := by simp only [maxLen] at h63; omega
  by_cases hm : m = 0
  · subst hm
    have hnews : news = [] := List.eq_nil_of_length_eq_zero (by simpa using hl)
    subst hnews
    have hnc := h.osl_len.2.1
    refine ⟨a, c, w, ?_, .inl ⟨rfl, rfl, by simpa using h⟩⟩
    cases x <;> cases a <;> simp [Builtin.append_, run_underlying ht, Go.sizeOf, typeInfo, hi, Builtin.lenOf, hnc, Builtin.firstCells, loadCells, loadCellsFrom, storeCells]
  · obtain ⟨b, rfl⟩ : ∃ b, x = some b := by
      cases x with
      | none => exact absurd (hx0 rfl) hm
      | some b => exact ⟨b, rfl⟩
    have hsrc := hx b rfl
    have fits : ∀ old, old < n + m → Builtin.nextslicecap (n + m) old * i.bytes ≤ 281474976710656 := fun old ho => growslice_fits ho hby
    rcases h.osl_cases with ⟨rfl, rfl, rfl, rfl, h0⟩ | ⟨g, cur, rfl, hlen, hnc, hcm, hcs, htake, hS⟩
    · have hrun := run_append_nil (P := P) w t ty E i z ht hi hz b m cc news hl hsrc (by omega) (by omega) (by have := fits 0 (by omega); rw [Nat.zero_add, nextslicecap_zero (by omega)] at this; exact this)
      have hcap := grownCap_ok w m 0 E (by omega)
      refine ⟨_, _, _, by rw [Nat.zero_add]; exact hrun, .inr ?_⟩
      refine (((h0.osl_nil E i.size).drew.alloc _).osl_mk (0 + m) _ i.size ([] ++ news) (by simpa using hl) (by omega) hcap.2 ?_ ?_)
      · simp only [Array.size_append, List.size_toArray, size_zeroCells', hzs, hl]
        rw [← Nat.add_mul]; congr 1; omega
      · simp [← hl]
    · by_cases hroom : n + m ≤ c
      · have hfit : n * i.size + news.length ≤ cur.size := by rw [hl, hcs, ← Nat.add_mul]; exact Nat.mul_le_mul_right _ hroom
        have hrun := run_append_room (P := P) w t ty E i ht hi g n c cur hS.blk_heap b m cc news hl hsrc h1 hroom hfit
        refine ⟨_, _, _, hrun, .inl ⟨rfl, rfl, (hS.setRow _).osl_mk (n + m) c i.size (xs ++ news) (by rw [List.length_append, hlen, hl, Nat.add_mul]) hroom hcm ?_ ?_⟩⟩
        · have : n * i.size ≤ cur.size := by omega
          simp only [List.size_toArray, List.length_append, List.length_take, List.length_drop, Array.length_toList]
          rw [← hcs]; omega
        · rw [htake, List.take_append_of_le_length (by rw [List.length_append, hlen, hl, Nat.add_mul]; omega), List.take_of_length_le (by rw [List.length_append, hlen, hl, Nat.add_mul]; omega)]
      · have hrun := run_append_grow (P := P) w t ty E i z ht hi hz ⟨g, 0, none⟩ n c xs hlen (fun j u hu => by
            obtain ⟨g', e, hc⟩ := h.osl_at (fun e => by rw [e] at hu; simp at hu)
            cases e
            have := hc j u hu
            unfold Addr.add
            split
            · rename_i e; subst e; exact this
            · simpa using this) b m cc news hl hsrc (by omega) (by omega) (fits c (by omega))
        have hcap := grownCap_ok w (n + m) c E h63
        refine ⟨_, _, _, hrun, .inr (((h.drew).alloc _).osl_mk (n + m) _ i.size (xs ++ news) (by rw [List.length_append, hlen, hl, Nat.add_mul]) hcap.1 hcap.2 ?_ ?_)⟩
        · simp only [Array.size_append, List.size_toArray, size_zeroCells', hzs, hl, hlen]
          rw [← Nat.add_mul, ← Nat.add_mul]; congr 1; omega
        · have : xs.length + news.length = (n + m) * i.size := by rw [hlen, hl, Nat.add_mul]
          rw [← this, ← List.length_append]; simp only [Array.toList_append, List.append_toArray, List.take_left]
/-- The same for bytes: the new slice and the old one are both known afterwards. -/
theorem wpl_append_keep {ops : Array Oper} {rest : List Oper} {o : Oper} {ac : Act} {Q : Exit → Act → World → Prop} (hgd : o.guard = none) (s y : Operand) (t : TypeId)
    (ho : o.op = .call { callee := .builtin .append, args := #[s, y], argTypes := #[t, t] })
    (E : Nat) (ht : P.underlying t = some (.slice E)) (hi : (P.info? E).map (fun i => (i.zero, i.size, i.bytes)) = some (some (.int .u8 0), 1, 1))
    {a : Option Addr} {n c : Nat} {bs : List UInt8} (hs : ac.eval s = .slice a n c) (h : Sat W w (sep (osl E 1 a n c (bs.map bv)) A))
    {x : Option Addr} {m cc : Nat} (hy : ac.eval y = .slice x m cc) (news : List UInt8) (hl : news.length = m) (hx0 : x = none → m = 0) (hx : ∀ b, x = some b → ∀ j u, (news.map bv)[j]? = some u → w.cell? (b.add j) = some u)
    (h63 : n + m ≤ 140737488355328)
    (hK : ∀ a' c' w', Sat W w' (sep (rBytes.is [.slice a' (n + m) c'] (bs ++ news)) (sep (rBytes.is [.slice a n c] bs) A)) → wpList P ops Q rest (ac.put o.dst (.slice a' (n + m) c')) w') : wpList P ops Q (o :: rest) ac w := by
  obtain ⟨i, hi1, hi2, hi3, hi4⟩ := info_parts hi
  have hone : ∀ u ∈ news.map bv, u.oneCell' = true := bv_one news
  obtain ⟨a', c', w', hr, hS⟩ := run_append_keep t o.type E 1 1 i (.int .u8 0) ht hi1 hi2 hi3 hi4 rfl h x m cc (news.map bv) (by simp [hl]) hx0 hx hone (by unfold maxLen; omega) (by omega)
  refine wpList_plain hgd fun _ hk => wp_of_run (exec_append s y t t ho (by rw [hs, hy]; exact hr)) (hk _ _ (hK _ _ _ ?_))
  have hlen := h.bytes_of_osl.1
  have e : bs.map bv ++ news.map bv = (bs ++ news).map bv := by simp
  rw [e] at hS
  rcases hS with ⟨rfl, rfl, hS⟩ | hS
  · obtain ⟨h1, h2⟩ := hS.bytes_of_osl
    have hd := h2.dup
    have hsw := h.swf_of_osl
    refine Sat.p1 (hd.wk ?_)
    rintro I mm ⟨x1, y1, d1, e1, ⟨rfl, r1⟩, hA⟩
    refine ⟨Mem.no, y1, d1, e1, ⟨rfl, ?_⟩, hA⟩
    obtain ⟨a2, c2, cells, q1, q2, q3, q4⟩ := r1
    simp only [List.cons.injEq, Value.slice.injEq, and_true] at q1
    obtain ⟨rfl, -, rfl⟩ := q1
    rw [(rows_rByte _ _ _).1 q4] at q3
    refine ⟨a', c', bs.map bv, by rw [hlen], by rw [← hlen]; exact hsw, ?_, (rows_rByte _ _ _).2 rfl⟩
    rcases q3 with q3 | ⟨b', o', cs, t', f, e1, e2, e3⟩
    · left
      have : bs ++ news = [] := by simpa using q3
      simp at this; rw [this.1]; rfl
    · right
      refine ⟨b', o', cs, t', f, e1, e2, fun j u hu => e3 j u ?_⟩
      rw [List.map_append]
      have hj := (List.getElem?_eq_some_iff.1 hu).1
      rw [List.getElem?_append_left hj]
      exact hu
  · exact (hS.bytes_of_osl.2.p1.bytes_of_osl.2).p1
end
end PA
