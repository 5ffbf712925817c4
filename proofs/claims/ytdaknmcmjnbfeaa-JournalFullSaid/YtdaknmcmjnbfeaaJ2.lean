/- The reference's journal: Core, Frame. -/
import Derived.Test.YtdaknmcmjnbfeaaJ1
namespace Go.Proofs.Ytdaknmcmjnbfeaa
open Go.RowKit PA
/-- What may be appended. -/
structure SrcOk (w : World) (a : Option Addr) (n : Nat) (vs : List Value) : Prop where
  len : vs.length = n * 1
  nil : a = none → n = 0
  src : ∀ b, a = some b → ∀ j u, vs[j]? = some u → w.cell? (b.add j) = some u
  one : ∀ u ∈ vs, u.oneCell' = true
theorem osl_ok {W w : World} {A : Assn} {E : Nat} {a : Option Addr} {n c : Nat} {bs : List UInt8} (h : Sat W w (sep (osl E 1 a n c (bs.map bv)) A)) : SrcOk w a n (bs.map bv) :=
  ⟨h.osl_len.1, fun e => by have := h.swf_of_osl.2.2 e; have := h.swf_of_osl.1; omega, h.osl_src, bv_one bs⟩
set_option maxHeartbeats 2000000 in
theorem rcore_spec {W w : World} {A : Assn} {I : Mem} (n : Int) (v : Value) (b : List UInt8) (h : Sat W w (sep (kn I) A)) (hv : rBytes.rel I [v] b) (h1 : I64 n) (h3 : b.length ≤ 1000000) :
    Calls Try.prog 38 #[.int .i64 n, v] w fun e w' => ∃ a c, e = .returned (.slice a (coreJ n b).length c) ∧ Sat W w' (sep (osl 5 1 a (coreJ n b).length c ((coreJ n b).map bv)) (sep (kn I) A)) := by
  have HVJ := Lib.hid hv
  have H1 := Lib.hid h1
  have H3 := Lib.hid h3
  have L1 := Lib.hid (encI_length n h1.1 h1.2)
  have L3 := Lib.hid (encR_length b (by omega))
  clear hv h1 h3
  go_enter Try.func38, Try.ntmps38
  go_wp2_with fail
  refine (rint_spec n H1.out.1 H1.out.2 h).mono ?_
  rintro e w2 ⟨a1, c1, rfl, hS2⟩
  obtain ⟨n1, hn1⟩ : ∃ n1, n1 = (encI n).length := ⟨_, rfl⟩
  obtain ⟨v1, hv1⟩ : ∃ v1, v1 = (encI n).map bv := ⟨_, rfl⟩
  rw [← hn1, ← hv1] at hS2
  rw [← hn1]
  have HN1 := Lib.hid hn1
  have HV1 := Lib.hid hv1
  clear h hn1 hv1
  go_wp2_with fail
  refine (rraw_spec _ b hS2.p1 HVJ.out (by have := H3.out; omega)).mono ?_
  rintro e w5 ⟨a4, c4, rfl, hS6⟩
  obtain ⟨n3, hn3⟩ : ∃ n3, n3 = (encR b).length := ⟨_, rfl⟩
  obtain ⟨v3, hv3⟩ : ∃ v3, v3 = (encR b).map bv := ⟨_, rfl⟩
  rw [← hn3, ← hv3] at hS6
  rw [← hn3]
  have HN3 := Lib.hid hn3
  have HV3 := Lib.hid hv3
  have hok3 := osl_ok (bs := encR b) (by rw [← hv3]; exact hS6)
  rw [← hv3] at hok3
  have HOK3 := Lib.hid hok3
  have hB : Sat W w5 (sep (osl 5 1 a1 n1 c1 v1) (sep (kn I) (sep (osl 5 1 a4 n3 c4 v3) A))) := by simpa only [sep_comm, sep_lcomm, sep_assoc] using hS6
  clear hS2 hn3 hv3 hok3 hS6
  go_wp2_with (at_builtin; (refine wpl_append_osl rfl (.tmp 8) (.tmp 10) 23 rfl 5 1 1 (.int .u8 0) Try.underlying23 infoU8w rfl rfl hB rfl v3 HOK3.out.len HOK3.out.nil HOK3.out.src HOK3.out.one (by have := L1.out; have := L3.out; have := HN1.out; have := HN3.out; have := H3.out; omega) (by have := L1.out; have := L3.out; have := HN1.out; have := HN3.out; have := H3.out; unfold maxLen; omega) ?_))
  intro a6 c6 w6 hS7
  have hl : n1 + n3 = (coreJ n b).length := by rw [coreJ, List.length_append, ← HN1.out, ← HN3.out]
  have h8 : Sat W w6 (sep (osl 5 1 a6 (coreJ n b).length c6 ((coreJ n b).map bv)) (sep (kn I) A)) := by
    rw [← hl, coreJ, List.map_append, ← HV1.out, ← HV3.out]
    exact hS7.p2.drop.p1.p1
  have HL := Lib.hid hl
  clear hl hS7 hB
  go_wp2_with fail
  go_ret
  exact ⟨a6, c6, by rw [← HL.out]; rfl, h8⟩
set_option maxHeartbeats 2000000 in
theorem rframe_spec {W w : World} {A : Assn} {I : Mem} (n : Int) (v : Value) (b : List UInt8) (h : Sat W w (sep (kn I) A)) (hv : rBytes.rel I [v] b) (h1 : I64 n) (h3 : b.length ≤ 1000000) :
    Calls Try.prog 13 #[.int .i64 n, v] w fun e w' => ∃ a c, e = .returned (.slice a (frameJ n b).length c) ∧ Sat W w' (sep (osl 5 1 a (frameJ n b).length c ((frameJ n b).map bv)) (sep (kn I) A)) := by
  have hcore := rcore_spec n v b h hv h1 h3
  obtain ⟨fr, hfr⟩ : ∃ fr, fr = frameJ n b := ⟨_, rfl⟩
  obtain ⟨cb, hcb⟩ : ∃ cb, cb = coreJ n b := ⟨_, rfl⟩
  have hcl : cb.length ≤ 1000100 := by rw [hcb]; have := coreJ_length n b h1 h3; omega
  rw [← hcb] at hcore
  rw [← hfr]
  have HC := Lib.hid hcore
  have HFR := Lib.hid hfr
  have HCB := Lib.hid hcb
  have HL := Lib.hid hcl
  have L1 := Lib.hid (encR_length cb (by omega))
  clear hcore hfr hcb hcl h hv h1 h3
  go_enter Try.func13, Try.ntmps13
  go_wp2_with fail
  refine HC.out.mono ?_
  rintro e w0 ⟨a0, c0, rfl, hS0⟩
  obtain ⟨J, hle, hb, hS1⟩ := hS0.bytes_of_osl.2.learn
  obtain ⟨v2b, hv2b⟩ : ∃ v2b, v2b = Value.slice a0 cb.length c0 := ⟨_, rfl⟩
  rw [← hv2b] at hb
  rw [← hv2b]
  have HB := Lib.hid hb
  have HLE := Lib.hid hle
  clear HC hS0 hle hb hv2b
  go_wp2_with fail
  refine (rraw_spec v2b cb hS1 HB.out (by have := HL.out; omega)).mono ?_
  rintro e w2 ⟨a1, c1, rfl, hS2⟩
  obtain ⟨n1, hn1⟩ : ∃ n1, n1 = (encR cb).length := ⟨_, rfl⟩
  obtain ⟨v1, hv1⟩ : ∃ v1, v1 = (encR cb).map bv := ⟨_, rfl⟩
  rw [← hn1, ← hv1] at hS2
  rw [← hn1]
  have HN1 := Lib.hid hn1
  have HV1 := Lib.hid hv1
  clear hS1 hn1 hv1
  go_wp2_with fail
  refine (rhbytes_spec ⟨#[102, 114, 97, 109, 101]⟩ v2b cb hS2.p1 HB.out (by decide) (by have := HL.out; omega)).mono ?_
  rintro e w3 ⟨rfl, hS3⟩
  obtain ⟨hs, hhs⟩ : ∃ hs, hs = bytesN frameL cb := ⟨_, rfl⟩
  have hhs2 : bytesN (ByteArray.mk #[102, 114, 97, 109, 101]).data.toList cb = hs := by rw [hhs]; rfl
  rw [hhs2]
  have hhl : hs < 18446744073709551616 := by rw [hhs]; exact bytesN_lt _ _
  have HHL := Lib.hid hhl
  have HHS := Lib.hid hhs
  have L2 := Lib.hid (Lib.uvarint_length64 hhl)
  clear hhs hhs2 hhl hS2
  go_wp2_with fail
  refine (ruint_spec hs HHL.out hS3).mono ?_
  rintro e w4 ⟨a2, c2, rfl, hS4⟩
  obtain ⟨n2, hn2⟩ : ∃ n2, n2 = (Lib.uvarint hs).length := ⟨_, rfl⟩
  obtain ⟨v2, hv2⟩ : ∃ v2, v2 = (Lib.uvarint hs).map bv := ⟨_, rfl⟩
  rw [← hn2, ← hv2] at hS4
  rw [← hn2]
  have HN2 := Lib.hid hn2
  have HV2 := Lib.hid hv2
  have hok2 := osl_ok (bs := Lib.uvarint hs) (by rw [← hv2]; exact hS4)
  rw [← hv2] at hok2
  have HOK2 := Lib.hid hok2
  have hB : Sat W w4 (sep (osl 5 1 a1 n1 c1 v1) (sep (kn J) (sep (osl 5 1 a2 n2 c2 v2) A))) := by simpa only [sep_comm, sep_lcomm, sep_assoc] using hS4
  clear hS3 hn2 hv2 hok2 hS4
  go_wp2_with (at_builtin; (refine wpl_append_osl rfl (.tmp 12) (.tmp 15) 23 rfl 5 1 1 (.int .u8 0) Try.underlying23 infoU8w rfl rfl hB rfl v2 HOK2.out.len HOK2.out.nil HOK2.out.src HOK2.out.one (by have := L1.out; have := L2.out; have := HN1.out; have := HN2.out; have := HL.out; omega) (by have := L1.out; have := L2.out; have := HN1.out; have := HN2.out; have := HL.out; unfold maxLen; omega) ?_))
  intro a6 c6 w6 hS7
  have hl : n1 + n2 = (fr).length := by rw [HFR.out, frameJ, ← HCB.out, List.length_append, ← HHS.out, ← HN1.out, ← HN2.out]
  have h8 : Sat W w6 (sep (osl 5 1 a6 (fr).length c6 ((fr).map bv)) (sep (kn I) A)) := by
    rw [← hl, HFR.out, frameJ, ← HCB.out, List.map_append, ← HHS.out, ← HV1.out, ← HV2.out]
    exact (hS7.p2.drop.p1.kn_mono HLE.out).p1
  have HL9 := Lib.hid hl
  clear hl hS7 hB
  go_wp2_with fail
  go_ret
  exact ⟨a6, c6, by rw [← HL9.out]; rfl, h8⟩
end Go.Proofs.Ytdaknmcmjnbfeaa
