/- The reference's Encode. -/
import Derived.Test.YtnmkdidhilekiaaE1
namespace Go.Proofs.Ytnmkdidhilekiaa
open Go.RowKit PA
/-- What may be appended. -/
structure SrcOk (w : World) (a : Option Addr) (n : Nat) (vs : List Value) : Prop where
  len : vs.length = n * 1
  nil : a = none → n = 0
  src : ∀ b, a = some b → ∀ j u, vs[j]? = some u → w.cell? (b.add j) = some u
  one : ∀ u ∈ vs, u.oneCell' = true
theorem osl_ok {W w : World} {A : Assn} {E : Nat} {a : Option Addr} {n c : Nat} {bs : List UInt8} (h : Sat W w (sep (osl E 1 a n c (bs.map bv)) A)) : SrcOk w a n (bs.map bv) :=
  ⟨h.osl_len.1, fun e => by have := h.swf_of_osl.2.2 e; have := h.swf_of_osl.1; omega, h.osl_src, bv_one bs⟩
set_option maxHeartbeats 2000000 in
theorem rcore_spec {W w : World} {A : Assn} {I : Mem} (p : Pkt) (v : Value) (h : Sat W w (sep (kn I) A)) (hv : rBytes.rel I [v] p.b) (h1 : I64 p.seq) (h2 : I64 p.ack) (h3 : p.b.length ≤ 1000000) :
    Calls Try.prog 50 #[.agg #[.int .i64 p.seq, .int .i64 p.ack, v]] w fun e w' => ∃ a c, e = .returned (.slice a (coreP p).length c) ∧ Sat W w' (sep (osl 5 1 a (coreP p).length c ((coreP p).map bv)) (sep (kn I) A)) := by
  obtain ⟨a, c, rfl, hsw, -⟩ := bytes_rel.1 hv
  obtain ⟨J, hle, hJ, hS⟩ := (h.alloc (.cells #[.int .i64 p.seq, .int .i64 p.ack, .slice a p.b.length c] 40)).settle.learn
  obtain ⟨q, hq⟩ : ∃ q, q = w.heap.size := ⟨_, rfl⟩
  have HJ := Lib.hid hJ
  have HLE := Lib.hid hle
  have HVJ := Lib.hid (rBytes.mono hle hv)
  have H1 := Lib.hid h1
  have H2 := Lib.hid h2
  have H3 := Lib.hid h3
  have L1 := Lib.hid (encI_length p.seq h1.1 h1.2)
  have L2 := Lib.hid (encI_length p.ack h2.1 h2.2)
  have L3 := Lib.hid (encR_length p.b (by omega))
  clear hsw hv h hJ hle h1 h2 h3
  go_enter Try.func50, Try.ntmps50
  go_wp2_with fail
  refine (rint_spec p.seq H1.out.1 H1.out.2 hS).mono ?_
  rintro e w2 ⟨a1, c1, rfl, hS2⟩
  obtain ⟨n1, hn1⟩ : ∃ n1, n1 = (encI p.seq).length := ⟨_, rfl⟩
  obtain ⟨v1, hv1⟩ : ∃ v1, v1 = (encI p.seq).map bv := ⟨_, rfl⟩
  rw [← hn1, ← hv1] at hS2
  rw [← hn1]
  have c1' : w2.cell? ⟨w.heap.size, 1, none⟩ = some (.int .i64 p.ack) := ext_cell HJ.out hS2.p1.ext
  have HN1 := Lib.hid hn1
  have HV1 := Lib.hid hv1
  clear hq hS hn1 hv1
  go_wp2_with fail
  refine (rint_spec p.ack H2.out.1 H2.out.2 hS2).mono ?_
  rintro e w3 ⟨a2, c2, rfl, hS3⟩
  obtain ⟨n2, hn2⟩ : ∃ n2, n2 = (encI p.ack).length := ⟨_, rfl⟩
  obtain ⟨v2, hv2⟩ : ∃ v2, v2 = (encI p.ack).map bv := ⟨_, rfl⟩
  rw [← hn2, ← hv2] at hS3
  rw [← hn2]
  have HN2 := Lib.hid hn2
  have HV2 := Lib.hid hv2
  have hok2 := osl_ok (bs := encI p.ack) (by rw [← hv2]; exact hS3)
  rw [← hv2] at hok2
  have HOK2 := Lib.hid hok2
  have hB := hS3.p1
  clear c1' hS2 hn2 hv2 hok2 hS3
  go_wp2_with (at_builtin; (refine wpl_append_osl rfl (.tmp 7) (.tmp 10) 31 rfl 5 1 1 (.int .u8 0) Try.underlying31 infoU8w rfl rfl hB rfl v2 HOK2.out.len HOK2.out.nil HOK2.out.src HOK2.out.one (by have := L1.out; have := L2.out; have := HN1.out; have := HN2.out; omega) (by have := L1.out; have := L2.out; have := HN1.out; have := HN2.out; unfold maxLen; omega) ?_))
  intro a3 c3 w4 hS4
  have hS5 := hS4.p1.drop
  have hx5 := hS5.p1.ext
  have c2' : w4.cell? ⟨w.heap.size, 2, none⟩ = some (.slice a p.b.length c) := ext_cell HJ.out hx5
  clear hB hS4 hx5
  go_wp2_with fail
  refine (rraw_spec _ p.b hS5.p1 HVJ.out (by have := H3.out; omega)).mono ?_
  rintro e w5 ⟨a4, c4, rfl, hS6⟩
  obtain ⟨n3, hn3⟩ : ∃ n3, n3 = (encR p.b).length := ⟨_, rfl⟩
  obtain ⟨v3, hv3⟩ : ∃ v3, v3 = (encR p.b).map bv := ⟨_, rfl⟩
  rw [← hn3, ← hv3] at hS6
  rw [← hn3]
  have HN3 := Lib.hid hn3
  have HV3 := Lib.hid hv3
  have hok3 := osl_ok (bs := encR p.b) (by rw [← hv3]; exact hS6)
  rw [← hv3] at hok3
  have HOK3 := Lib.hid hok3
  have hB : Sat W w5 (sep (osl 5 1 a3 (n1 + n2) c3 (v1 ++ v2)) (sep (kn J) (sep (osl 5 1 a4 n3 c4 v3) A))) := by simpa only [sep_comm, sep_lcomm, sep_assoc] using hS6
  clear c2' hS5 hn3 hv3 hok3 hS6
  go_wp2_with (at_builtin; (refine wpl_append_osl rfl (.tmp 12) (.tmp 15) 31 rfl 5 1 1 (.int .u8 0) Try.underlying31 infoU8w rfl rfl hB rfl v3 HOK3.out.len HOK3.out.nil HOK3.out.src HOK3.out.one (by have := L1.out; have := L2.out; have := L3.out; have := HN1.out; have := HN2.out; have := HN3.out; have := H3.out; omega) (by have := L1.out; have := L2.out; have := L3.out; have := HN1.out; have := HN2.out; have := HN3.out; have := H3.out; unfold maxLen; omega) ?_))
  intro a6 c6 w6 hS7
  have hl : n1 + n2 + n3 = (coreP p).length := by rw [coreP, List.length_append, List.length_append, ← HN1.out, ← HN2.out, ← HN3.out, Nat.add_assoc]
  have h8 : Sat W w6 (sep (osl 5 1 a6 (coreP p).length c6 ((coreP p).map bv)) (sep (kn I) A)) := by
    rw [← hl, coreP, List.map_append, List.map_append, ← HV1.out, ← HV2.out, ← HV3.out]
    exact (hS7.p2.drop.p1.kn_mono HLE.out).p1
  have HL := Lib.hid hl
  clear hl hS7 hB
  go_wp2_with fail
  go_ret
  exact ⟨a6, c6, by rw [← HL.out]; rfl, h8⟩
set_option maxHeartbeats 2000000 in
theorem rwhole_spec {W w : World} {A : Assn} {I : Mem} (v : Value) (cb : List UInt8) (h : Sat W w (sep (kn I) A)) (hv : rBytes.rel I [v] cb) (hl : cb.length ≤ 1000100) :
    Calls Try.prog 31 #[v] w fun e w' => ∃ a c, e = .returned (.slice a (wholeP cb).length c) ∧ Sat W w' (sep (osl 5 1 a (wholeP cb).length c ((wholeP cb).map bv)) (sep (kn I) A)) := by
  have HV := Lib.hid hv
  have HL := Lib.hid hl
  have L1 := Lib.hid (encR_length cb (by omega))
  clear hv hl
  go_enter Try.func31, Try.ntmps31
  go_wp2_with fail
  refine (rraw_spec v cb h HV.out (by have := HL.out; omega)).mono ?_
  rintro e w2 ⟨a1, c1, rfl, hS2⟩
  obtain ⟨n1, hn1⟩ : ∃ n1, n1 = (encR cb).length := ⟨_, rfl⟩
  obtain ⟨v1, hv1⟩ : ∃ v1, v1 = (encR cb).map bv := ⟨_, rfl⟩
  rw [← hn1, ← hv1] at hS2
  rw [← hn1]
  have HN1 := Lib.hid hn1
  have HV1 := Lib.hid hv1
  clear h hn1 hv1
  go_wp2_with fail
  refine (rhbytes_spec ⟨#[112, 97, 114, 99, 101, 108]⟩ v cb hS2.p1 HV.out (by decide) (by have := HL.out; omega)).mono ?_
  rintro e w3 ⟨rfl, hS3⟩
  obtain ⟨hs, hhs⟩ : ∃ hs, hs = bytesN parcel cb := ⟨_, rfl⟩
  have hhs2 : bytesN (ByteArray.mk #[112, 97, 114, 99, 101, 108]).data.toList cb = hs := by rw [hhs]; rfl
  rw [hhs2]
  have hhl : hs < 18446744073709551616 := by rw [hhs]; exact bytesN_lt _ _
  have HHL := Lib.hid hhl
  have HHS := Lib.hid hhs
  have L2 := Lib.hid (Lib.uvarint_length64 hhl)
  clear hhs hhs2 hhl hS2
  go_wp2_with fail
  refine (ruint_spec hs HHL.out hS3).mono ?_
  rintro e w4 ⟨a2, c2, rfl, hS4⟩
  obtain ⟨n2, hn2⟩ : ∃ n2, n2 = (Lib.uvarint hs).length := ⟨_, rfl⟩
  obtain ⟨v2, hv2⟩ : ∃ v2, v2 = (Lib.uvarint hs).map bv := ⟨_, rfl⟩
  rw [← hn2, ← hv2] at hS4
  rw [← hn2]
  have HN2 := Lib.hid hn2
  have HV2 := Lib.hid hv2
  have hok2 := osl_ok (bs := Lib.uvarint hs) (by rw [← hv2]; exact hS4)
  rw [← hv2] at hok2
  have HOK2 := Lib.hid hok2
  have hB : Sat W w4 (sep (osl 5 1 a1 n1 c1 v1) (sep (kn I) (sep (osl 5 1 a2 n2 c2 v2) A))) := by simpa only [sep_comm, sep_lcomm, sep_assoc] using hS4
  clear hS3 hn2 hv2 hok2 hS4
  go_wp2_with (at_builtin; (refine wpl_append_osl rfl (.tmp 6) (.tmp 9) 31 rfl 5 1 1 (.int .u8 0) Try.underlying31 infoU8w rfl rfl hB rfl v2 HOK2.out.len HOK2.out.nil HOK2.out.src HOK2.out.one (by have := L1.out; have := L2.out; have := HN1.out; have := HN2.out; have := HL.out; omega) (by have := L1.out; have := L2.out; have := HN1.out; have := HN2.out; have := HL.out; unfold maxLen; omega) ?_))
  intro a6 c6 w6 hS7
  have hl : n1 + n2 = (wholeP cb).length := by rw [wholeP, List.length_append, ← HHS.out, ← HN1.out, ← HN2.out]
  have h8 : Sat W w6 (sep (osl 5 1 a6 (wholeP cb).length c6 ((wholeP cb).map bv)) (sep (kn I) A)) := by
    rw [← hl, wholeP, List.map_append, ← HHS.out, ← HV1.out, ← HV2.out]
    exact hS7.p2.drop.p1.p1
  have HL9 := Lib.hid hl
  clear hl hS7 hB
  go_wp2_with fail
  go_ret
  exact ⟨a6, c6, by rw [← HL9.out]; rfl, h8⟩
theorem rencode_no {W w : World} {A : Assn} {I : Mem} (p : Pkt) (v : Value) (h : Sat W w (sep (kn I) A)) (hv : rBytes.rel I [v] p.b) (hok : validP p = false) :
    Calls Try.prog 29 #[.agg #[.int .i64 p.seq, .int .i64 p.ack, v]] w fun e w' => e = .returned (.tuple #[.slice none 0 0, .int .i64 1]) ∧ Sat W w' (sep (kn I) A) := by
  obtain ⟨a, c, rfl, hsw, -⟩ := bytes_rel.1 hv
  have hok' : validB p.seq p.ack p.b.length = false := hok
  have hvs := fun w0 (h0 : Sat W w0 (sep (kn I) A)) => rvalid_spec p.seq p.ack a p.b.length c h0 (Nat.le_trans hsw.1 hsw.2.1)
  rw [hok'] at hvs
  have HV := Lib.hid hvs
  have h1 := h.alloc0 (.cells #[.int .i64 p.seq, .int .i64 p.ack, .slice a p.b.length c] 40)
  clear hok hok' hvs hsw hv h
  go_enter Try.func29, Try.ntmps29
  go_wp2_with fail
  refine (HV.out _ h1).mono ?_
  rintro e w2 ⟨rfl, h2⟩
  clear h1
  go_wp2_with fail
  go_ret2
  exact ⟨rfl, h2⟩
theorem rencode_ok {W w : World} {A : Assn} {I : Mem} (p : Pkt) (v : Value) (h : Sat W w (sep (kn I) A)) (hv : rBytes.rel I [v] p.b) (hok : validP p = true) (h1 : I64 p.seq) (h2 : I64 p.ack) (h3 : p.b.length ≤ 1000000) :
    Calls Try.prog 29 #[.agg #[.int .i64 p.seq, .int .i64 p.ack, v]] w fun e w' => ∃ a c, e = .returned (.tuple #[.slice a (wholeP (coreP p)).length c, .int .i64 0]) ∧ Sat W w' (sep (osl 5 1 a (wholeP (coreP p)).length c ((wholeP (coreP p)).map bv)) (sep (kn I) A)) := by
  obtain ⟨a, c, rfl, hsw, -⟩ := bytes_rel.1 hv
  have hok' : validB p.seq p.ack p.b.length = true := hok
  have hvs := fun w0 (A0 : Assn) (h0 : Sat W w0 A0) => rvalid_spec p.seq p.ack a p.b.length c h0 (Nat.le_trans hsw.1 hsw.2.1)
  rw [hok'] at hvs
  have HV := Lib.hid hvs
  obtain ⟨J, hle, hJ, hS⟩ := (h.alloc (.cells #[.int .i64 p.seq, .int .i64 p.ack, .slice a p.b.length c] 40)).settle.learn
  obtain ⟨q, hq⟩ : ∃ q, q = w.heap.size := ⟨_, rfl⟩
  rw [← hq] at hJ
  have HJ := Lib.hid hJ
  have HLE := Lib.hid hle
  have HVJ := Lib.hid (rBytes.mono hle hv)
  have H1 := Lib.hid h1
  have H2 := Lib.hid h2
  have H3 := Lib.hid h3
  have HCL := Lib.hid (coreP_length p h1 h2 h3)
  clear hok hok' hvs hsw hv h hJ hle h1 h2 h3
  go_enter Try.func29, Try.ntmps29
  go_wp2_with fail
  refine (HV.out _ _ hS).mono ?_
  rintro e w2 ⟨rfl, hS2⟩
  rw [← hq]
  have c0 : w2.cell? ⟨q, 0, none⟩ = some (.int .i64 p.seq) := ext_cell HJ.out hS2.ext
  have c1 : w2.cell? ⟨q, 1, none⟩ = some (.int .i64 p.ack) := ext_cell HJ.out hS2.ext
  have c2 : w2.cell? ⟨q, 2, none⟩ = some (.slice a p.b.length c) := ext_cell HJ.out hS2.ext
  clear hq hS
  go_wp2_with fail
  refine (rcore_spec p _ hS2 HVJ.out H1.out H2.out H3.out).mono ?_
  rintro e w3 ⟨a3, c3, rfl, hS3⟩
  obtain ⟨J2, hle2, hb2, hS4⟩ := hS3.bytes_of_osl.2.learn
  have HB2 := Lib.hid hb2
  have HLE2 := Lib.hid hle2
  clear c0 c1 c2 hS2 hS3 hb2 hle2
  go_wp2_with fail
  refine (rwhole_spec _ (coreP p) hS4 HB2.out (by have := HCL.out; have := H3.out; omega)).mono ?_
  rintro e w4 ⟨a4, c4, rfl, hS5⟩
  clear hS4
  go_wp2_with fail
  go_ret2
  exact ⟨a4, c4, rfl, (hS5.p1.kn_mono (Mem.le_trans HLE.out HLE2.out)).p1⟩
end Go.Proofs.Ytnmkdidhilekiaa
