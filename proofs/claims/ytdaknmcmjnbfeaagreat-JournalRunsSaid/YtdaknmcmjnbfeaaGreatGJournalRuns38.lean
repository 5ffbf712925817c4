/- Package journal: Frame. -/
import Derived.Test.YtdaknmcmjnbfeaaGreatGJournalRunsSW9
import Derived.Test.YtdaknmcmjnbfeaaGreatGJournalRuns37
import Derived.Deep.DeepCutAuto
namespace Go.Proofs.YtdaknmcmjnbfeaaGreat
open Go.RowKit PA
def I64 (n : Int) : Prop := -9223372036854775808 ≤ n ∧ n ≤ 9223372036854775807
theorem encR_length (b : List UInt8) (h : b.length ≤ 1073741824) : (encR b).length ≤ b.length + 10 := by
  rw [encR, List.length_append]
  have := Lib.uvarint_length64 (x := b.length) (by omega)
  omega
theorem bytesN_lt (s b : List UInt8) : bytesN s b < 18446744073709551616 := sumU_lt _ _
theorem coreJ_length (n : Int) (b : List UInt8) (h1 : I64 n) (hb : b.length ≤ 1000000) : (coreJ n b).length ≤ b.length + 20 := by
  rw [coreJ, List.length_append]
  have := encI_length n h1.1 h1.2
  have := encR_length b (by omega)
  omega
theorem ext_cell {J : Mem} {q i : Nat} {cs : Array Value} {t : TypeId} {f : Nat × Nat} (hJ : J q = some (.cells cs t f)) {w' : World} (he : Ext J w') : w'.cell? ⟨q, i, none⟩ = cs[i]? :=
  cell_of_row w' q i cs t f (he _ _ hJ)
theorem newWr {W w : World} {A : Assn} (h : Sat W w A) : Sat W (w.alloc (.cells #[.slice none 0 0] 75)) (sep (isWr w.heap.size []) A) :=
  isWr_mk (a := none) (n := 0) (c := 0) (bs := []) ((h.osl_nil 5 1).alloc (.cells #[.slice none 0 0] 75))
set_option maxHeartbeats 2000000 in
theorem jframe_spec {W w : World} {A : Assn} {I : Mem} (n : Int) (v : Value) (b : List UInt8) (h : Sat W w (sep (kn I) A)) (hv : rBytes.rel I [v] b) (h1 : I64 n) (h3 : b.length ≤ 1000000) :
    Calls Tryz.prog 36 #[.int .i64 n, v] w fun e w' => ∃ a c, e = .returned (.slice a (frameJ n b).length c) ∧ Sat W w' (sep (osl 5 1 a (frameJ n b).length c ((frameJ n b).map bv)) (sep (kn I) A)) := by
  obtain ⟨a, c, rfl, hsw, -⟩ := bytes_rel.1 hv
  have HV := Lib.hid hv
  have H1 := Lib.hid h1
  have H3 := Lib.hid h3
  have HCL := Lib.hid (coreJ_length n b h1 h3)
  have hW1 := newWr h
  have hW2 := newWr hW1
  rw [World.size_alloc] at hW2
  obtain ⟨p1, hp1⟩ : ∃ p1, p1 = w.heap.size := ⟨_, rfl⟩
  obtain ⟨w3, hw3⟩ : ∃ w3, w3 = (w.alloc (.cells #[.slice none 0 0] 75)).alloc (.cells #[.slice none 0 0] 75) := ⟨_, rfl⟩
  rw [← hp1, ← hw3] at hW2
  have HP1 := Lib.hid hp1
  have HW3 := Lib.hid hw3
  obtain ⟨nb, hnb⟩ : ∃ nb, nb = b.length := ⟨_, rfl⟩
  rw [← hnb] at HV ⊢
  clear hnb
  obtain ⟨rb, hrb⟩ : ∃ rb, rb = frameJ n b := ⟨_, rfl⟩
  have hrl : rb.length ≤ 1000040 := by rw [hrb]; have := frameJ_le n b h1.1 h1.2 (by omega); omega
  rw [← hrb]
  have HRL := Lib.hid hrl
  have HRB := Lib.hid hrb
  clear hrb hrl
  clear hsw hv h h1 h3 hW1 hp1 hw3
  go_enter Tryz.func36, Tryz.ntmps36
  go_upto_region 2 with (fail)
  rw [← HP1.out, ← HW3.out]
  go_wp2_with fail
  refine (wint_spec p1 [] n H1.out.1 H1.out.2 hW2.p1 (by simp)).mono ?_
  rintro e w4 ⟨rfl, hS4⟩
  rw [List.nil_append] at hS4
  have h4 : Sat W w4 (sep (isWr p1 (encI n)) (sep (kn I) (sep (isWr (p1 + 1) []) A))) := by simpa only [sep_comm, sep_lcomm, sep_assoc] using hS4
  have hlen : (encI n).length ≤ 1073741800 := by have := encI_length n H1.out.1 H1.out.2; omega
  have hraw := wraw_spec p1 (encI n) (.slice a nb c) b h4 HV.out hlen (by have := H3.out; omega)
  obtain ⟨cb, hcb⟩ : ∃ cb, cb = coreJ n b := ⟨_, rfl⟩
  have hcb2 : cb = encI n ++ encR b := by rw [hcb, coreJ]
  have HCB := Lib.hid hcb2
  have HCB1 := Lib.hid hcb
  have hcbl : cb.length ≤ 1000020 := by rw [hcb]; have := HCL.out; have := H3.out; omega
  have HCBL := Lib.hid hcbl
  have HRAW := Lib.hid hraw
  clear hW2 hS4 h4 hlen hraw hcb hcb2 hcbl
  go_wp2_with fail

  refine HRAW.out.mono ?_
  rintro e w6 ⟨rfl, hS6⟩
  rw [← HCB.out] at hS6
  clear HRAW
  go_wp2_with fail
  refine (wdone_spec p1 cb hS6 (by have := HCBL.out; omega)).mono ?_
  rintro e w7 ⟨a7, c7, rfl, hS7⟩
  have h7 : Sat W w7 (sep (rBytes.is [.slice a7 cb.length c7] cb) (sep (kn I) (sep (isWr p1 cb) (sep (isWr (p1 + 1) []) A)))) := by
    have := hS7.bytes_of_osl.2
    simpa only [sep_comm, sep_lcomm, sep_assoc] using this
  obtain ⟨J2, hle2, hb2, hS8⟩ := h7.learn
  have h8 : Sat W w7 (sep (isWr (p1 + 1) []) (sep (kn J2) (sep (isWr p1 cb) A))) := by simpa only [sep_comm, sep_lcomm, sep_assoc] using hS8
  have HB2 := Lib.hid hb2
  have HLE2 := Lib.hid hle2
  clear hS6 hS7 h7 hS8 hb2 hle2
  go_wp2_with fail
  refine (wraw_spec (p1 + 1) [] _ cb h8 HB2.out (by simp) (by have := HCBL.out; omega)).mono ?_
  rintro e w8 ⟨rfl, hS9⟩
  rw [List.nil_append] at hS9
  clear h8 HB2
  go_wp2_with fail
  have h9 : Sat W w8 (sep (isWr p1 cb) (sep (isWr (p1 + 1) (encR cb)) (sep (kn J2) A))) := by simpa only [sep_comm, sep_lcomm, sep_assoc] using hS9
  refine (wdone_spec p1 cb h9 (by have := HCBL.out; omega)).mono ?_
  rintro e w9 ⟨a9, c9, rfl, hS10⟩
  have h10 : Sat W w9 (sep (rBytes.is [.slice a9 cb.length c9] cb) (sep (kn J2) (sep (isWr p1 cb) (sep (isWr (p1 + 1) (encR cb)) A)))) := by
    have := hS10.bytes_of_osl.2
    simpa only [sep_comm, sep_lcomm, sep_assoc] using this
  obtain ⟨J3, hle3, hb3, hS11⟩ := h10.learn
  have HB3 := Lib.hid hb3
  have HLE3 := Lib.hid hle3
  clear hS9 h9 hS10 h10 hb3 hle3
  go_wp2_with fail
  refine (hbytes_any ⟨#[102, 114, 97, 109, 101]⟩ _ cb hS11 HB3.out (by decide) (by have := HCBL.out; omega)).mono ?_
  rintro e w10 ⟨rfl, hS12⟩
  obtain ⟨hs, hhs⟩ : ∃ hs, hs = bytesN frameL cb := ⟨_, rfl⟩
  have hhs2 : bytesN (ByteArray.mk #[102, 114, 97, 109, 101]).data.toList cb = hs := by rw [hhs]; rfl
  rw [hhs2]
  have hhl : hs < 18446744073709551616 := by rw [hhs]; exact bytesN_lt _ _
  have HHL := Lib.hid hhl
  have HHS := Lib.hid hhs
  have hel := encR_length cb (by have := HCBL.out; omega)
  have HEL := Lib.hid hel
  clear hS11 HB3 hhs hhs2 hhl hel
  have h12 : Sat W w10 (sep (isWr (p1 + 1) (encR cb)) (sep (isWr p1 cb) (sep (kn J3) A))) := by simpa only [sep_comm, sep_lcomm, sep_assoc] using hS12
  clear hS12
  go_wp2_with fail
  refine (wuint_spec (p1 + 1) (encR cb) hs HHL.out h12 (by have := HCBL.out; have := HEL.out; omega)).mono ?_
  rintro e w11 ⟨rfl, hS13⟩
  clear h12
  have hrb2 : encR cb ++ Lib.uvarint hs = rb := by rw [HRB.out, frameJ, ← HCB1.out, ← HHS.out]
  rw [hrb2] at hS13
  clear hrb2
  go_wp2_with fail
  refine (wdone_spec (p1 + 1) rb hS13 (by have := HRL.out; omega)).mono ?_
  rintro e w12 ⟨a12, c12, rfl, hS14⟩
  clear hS13
  go_wp2_with fail
  go_ret
  refine ⟨a12, c12, rfl, ?_⟩
  have h15 := hS14.p1.drop.p1.drop
  exact (h15.p1.kn_mono (Mem.le_trans HLE2.out HLE3.out)).p1
end Go.Proofs.YtdaknmcmjnbfeaaGreat
/- The reference's journal: Core, Frame. -/
namespace Go.Proofs.YtdaknmcmjnbfeaaGreat
open Go.RowKit PA
/-- What may be appended. -/
structure SrcOk (w : World) (a : Option Addr) (n : Nat) (vs : List Value) : Prop where
  len : vs.length = n * 1
  nil : a = none → n = 0
  src : ∀ b, a = some b → ∀ j u, vs[j]? = some u → w.cell? (b.add j) = some u
  one : ∀ u ∈ vs, u.oneCell' = true
theorem osl_ok {W w : World} {A : Assn} {E : Nat} {a : Option Addr} {n c : Nat} {bs : List UInt8} (h : Sat W w (sep (osl E 1 a n c (bs.map bv)) A)) : SrcOk w a n (bs.map bv) :=
  ⟨h.osl_len.1, fun e => by have := h.swf_of_osl.2.2 e; have := h.swf_of_osl.1; omega, h.osl_src, bv_one bs⟩
set_option maxHeartbeats 2000000 in
theorem rcore_spec {W w : World} {A : Assn} {I : Mem} (n : Int) (v : Value) (b : List UInt8) (h : Sat W w (sep (kn I) A)) (hv : rBytes.rel I [v] b) (h1 : I64 n) (h3 : b.length ≤ 1000000) :
    Calls Tryz.prog 53 #[.int .i64 n, v] w fun e w' => ∃ a c, e = .returned (.slice a (coreJ n b).length c) ∧ Sat W w' (sep (osl 5 1 a (coreJ n b).length c ((coreJ n b).map bv)) (sep (kn I) A)) := by
  have HVJ := Lib.hid hv
  have H1 := Lib.hid h1
  have H3 := Lib.hid h3
  have L1 := Lib.hid (encI_length n h1.1 h1.2)
  have L3 := Lib.hid (encR_length b (by omega))
  clear hv h1 h3
  go_enter Tryz.func53, Tryz.ntmps53
  go_wp2_with fail
  refine (rint_spec n H1.out.1 H1.out.2 h).mono ?_
  rintro e w2 ⟨a1, c1, rfl, hS2⟩
  obtain ⟨n1, hn1⟩ : ∃ n1, n1 = (encI n).length := ⟨_, rfl⟩
  obtain ⟨v1, hv1⟩ : ∃ v1, v1 = (encI n).map bv := ⟨_, rfl⟩
  rw [← hn1, ← hv1] at hS2
  rw [← hn1]
  have HN1 := Lib.hid hn1
  have HV1 := Lib.hid hv1
  clear h hn1 hv1
  go_wp2_with fail
  refine (rraw_spec _ b hS2.p1 HVJ.out (by have := H3.out; omega)).mono ?_
  rintro e w5 ⟨a4, c4, rfl, hS6⟩
  obtain ⟨n3, hn3⟩ : ∃ n3, n3 = (encR b).length := ⟨_, rfl⟩
  obtain ⟨v3, hv3⟩ : ∃ v3, v3 = (encR b).map bv := ⟨_, rfl⟩
  rw [← hn3, ← hv3] at hS6
  rw [← hn3]
  have HN3 := Lib.hid hn3
  have HV3 := Lib.hid hv3
  have hok3 := osl_ok (bs := encR b) (by rw [← hv3]; exact hS6)
  rw [← hv3] at hok3
  have HOK3 := Lib.hid hok3
  have hB : Sat W w5 (sep (osl 5 1 a1 n1 c1 v1) (sep (kn I) (sep (osl 5 1 a4 n3 c4 v3) A))) := by simpa only [sep_comm, sep_lcomm, sep_assoc] using hS6
  clear hS2 hn3 hv3 hok3 hS6
  go_wp2_with (at_builtin; (refine wpl_append_osl rfl (.tmp 8) (.tmp 10) 39 rfl 5 1 1 (.int .u8 0) Tryz.underlying39 infoU8w rfl rfl hB rfl v3 HOK3.out.len HOK3.out.nil HOK3.out.src HOK3.out.one (by have := L1.out; have := L3.out; have := HN1.out; have := HN3.out; have := H3.out; omega) (by have := L1.out; have := L3.out; have := HN1.out; have := HN3.out; have := H3.out; unfold maxLen; omega) ?_))
  intro a6 c6 w6 hS7
  have hl : n1 + n3 = (coreJ n b).length := by rw [coreJ, List.length_append, ← HN1.out, ← HN3.out]
  have h8 : Sat W w6 (sep (osl 5 1 a6 (coreJ n b).length c6 ((coreJ n b).map bv)) (sep (kn I) A)) := by
    rw [← hl, coreJ, List.map_append, ← HV1.out, ← HV3.out]
    exact hS7.p2.drop.p1.p1
  have HL := Lib.hid hl
  clear hl hS7 hB
  go_wp2_with fail
  go_ret
  exact ⟨a6, c6, by rw [← HL.out]; rfl, h8⟩
set_option maxHeartbeats 2000000 in
theorem rframe_spec {W w : World} {A : Assn} {I : Mem} (n : Int) (v : Value) (b : List UInt8) (h : Sat W w (sep (kn I) A)) (hv : rBytes.rel I [v] b) (h1 : I64 n) (h3 : b.length ≤ 1000000) :
    Calls Tryz.prog 38 #[.int .i64 n, v] w fun e w' => ∃ a c, e = .returned (.slice a (frameJ n b).length c) ∧ Sat W w' (sep (osl 5 1 a (frameJ n b).length c ((frameJ n b).map bv)) (sep (kn I) A)) := by
  have hcore := rcore_spec n v b h hv h1 h3
  obtain ⟨fr, hfr⟩ : ∃ fr, fr = frameJ n b := ⟨_, rfl⟩
  obtain ⟨cb, hcb⟩ : ∃ cb, cb = coreJ n b := ⟨_, rfl⟩
  have hcl : cb.length ≤ 1000100 := by rw [hcb]; have := coreJ_length n b h1 h3; omega
  rw [← hcb] at hcore
  rw [← hfr]
  have HC := Lib.hid hcore
  have HFR := Lib.hid hfr
  have HCB := Lib.hid hcb
  have HL := Lib.hid hcl
  have L1 := Lib.hid (encR_length cb (by omega))
  clear hcore hfr hcb hcl h hv h1 h3
  go_enter Tryz.func38, Tryz.ntmps38
  go_wp2_with fail
  refine HC.out.mono ?_
  rintro e w0 ⟨a0, c0, rfl, hS0⟩
  obtain ⟨J, hle, hb, hS1⟩ := hS0.bytes_of_osl.2.learn
  obtain ⟨v2b, hv2b⟩ : ∃ v2b, v2b = Value.slice a0 cb.length c0 := ⟨_, rfl⟩
  rw [← hv2b] at hb
  rw [← hv2b]
  have HB := Lib.hid hb
  have HLE := Lib.hid hle
  clear HC hS0 hle hb hv2b
  go_wp2_with fail
  refine (rraw_spec v2b cb hS1 HB.out (by have := HL.out; omega)).mono ?_
  rintro e w2 ⟨a1, c1, rfl, hS2⟩
  obtain ⟨n1, hn1⟩ : ∃ n1, n1 = (encR cb).length := ⟨_, rfl⟩
  obtain ⟨v1, hv1⟩ : ∃ v1, v1 = (encR cb).map bv := ⟨_, rfl⟩
  rw [← hn1, ← hv1] at hS2
  rw [← hn1]
  have HN1 := Lib.hid hn1
  have HV1 := Lib.hid hv1
  clear hS1 hn1 hv1
  go_wp2_with fail
  refine (rhbytes_spec ⟨#[102, 114, 97, 109, 101]⟩ v2b cb hS2.p1 HB.out (by decide) (by have := HL.out; omega)).mono ?_
  rintro e w3 ⟨rfl, hS3⟩
  obtain ⟨hs, hhs⟩ : ∃ hs, hs = bytesN frameL cb := ⟨_, rfl⟩
  have hhs2 : bytesN (ByteArray.mk #[102, 114, 97, 109, 101]).data.toList cb = hs := by rw [hhs]; rfl
  rw [hhs2]
  have hhl : hs < 18446744073709551616 := by rw [hhs]; exact bytesN_lt _ _
  have HHL := Lib.hid hhl
  have HHS := Lib.hid hhs
  have L2 := Lib.hid (Lib.uvarint_length64 hhl)
  clear hhs hhs2 hhl hS2
  go_wp2_with fail
  refine (ruint_spec hs HHL.out hS3).mono ?_
  rintro e w4 ⟨a2, c2, rfl, hS4⟩
  obtain ⟨n2, hn2⟩ : ∃ n2, n2 = (Lib.uvarint hs).length := ⟨_, rfl⟩
  obtain ⟨v2, hv2⟩ : ∃ v2, v2 = (Lib.uvarint hs).map bv := ⟨_, rfl⟩
  rw [← hn2, ← hv2] at hS4
  rw [← hn2]
  have HN2 := Lib.hid hn2
  have HV2 := Lib.hid hv2
  have hok2 := osl_ok (bs := Lib.uvarint hs) (by rw [← hv2]; exact hS4)
  rw [← hv2] at hok2
  have HOK2 := Lib.hid hok2
  have hB : Sat W w4 (sep (osl 5 1 a1 n1 c1 v1) (sep (kn J) (sep (osl 5 1 a2 n2 c2 v2) A))) := by simpa only [sep_comm, sep_lcomm, sep_assoc] using hS4
  clear hS3 hn2 hv2 hok2 hS4
  go_wp2_with (at_builtin; (refine wpl_append_osl rfl (.tmp 12) (.tmp 15) 39 rfl 5 1 1 (.int .u8 0) Tryz.underlying39 infoU8w rfl rfl hB rfl v2 HOK2.out.len HOK2.out.nil HOK2.out.src HOK2.out.one (by have := L1.out; have := L2.out; have := HN1.out; have := HN2.out; have := HL.out; omega) (by have := L1.out; have := L2.out; have := HN1.out; have := HN2.out; have := HL.out; unfold maxLen; omega) ?_))
  intro a6 c6 w6 hS7
  have hl : n1 + n2 = (fr).length := by rw [HFR.out, frameJ, ← HCB.out, List.length_append, ← HHS.out, ← HN1.out, ← HN2.out]
  have h8 : Sat W w6 (sep (osl 5 1 a6 (fr).length c6 ((fr).map bv)) (sep (kn I) A)) := by
    rw [← hl, HFR.out, frameJ, ← HCB.out, List.map_append, ← HHS.out, ← HV1.out, ← HV2.out]
    exact (hS7.p2.drop.p1.kn_mono HLE.out).p1
  have HL9 := Lib.hid hl
  clear hl hS7 hB
  go_wp2_with fail
  go_ret
  exact ⟨a6, c6, by rw [← HL9.out]; rfl, h8⟩
end Go.Proofs.YtdaknmcmjnbfeaaGreat
/- bytes.Equal, bytes.HasPrefix. -/
namespace Go.Proofs.YtdaknmcmjnbfeaaGreat
open Go.RowKit PA
theorem conv_str {I : Mem} {w : World} (v : Value) (b : List UInt8) (hv : rBytes.rel I [v] b) (hx : Ext I w) : ∃ a c, v = .slice a b.length c ∧ (convert 39 9 v).run Tryz.prog w = .ok (.string ⟨b.toArray⟩) w := by
  obtain ⟨a, c, rfl, hsw, hc⟩ := bytes_rel.1 hv
  have hsrc := src_ext hc hx
  refine ⟨a, c, rfl, ?_⟩
  cases a with
  | none =>
    have hc0 := hsw.2.2 rfl
    have hb0 : b = [] := List.eq_nil_of_length_eq_zero (by have := hsw.1; omega)
    subst hb0
    simp [convert, run_underlying Tryz.underlying39, run_underlying Tryz.underlying9, run_underlying Tryz.underlying5, Conv.bytesToString]
    rfl
  | some ad =>
    exact run_convert_bytes_back (P := Tryz.prog) w 39 9 5 ad c b Tryz.underlying39 Tryz.underlying5 Tryz.underlying9 (fun j hj => hsrc ad rfl j _ (by rw [List.getElem?_map, List.getElem?_eq_getElem hj]; rfl))
theorem bequal_spec {W w : World} {A : Assn} {I : Mem} (v u : Value) (x y : List UInt8) (h : Sat W w (sep (kn I) A)) (hv : rBytes.rel I [v] x) (hu : rBytes.rel I [u] y) :
    Calls Tryz.prog 80 #[v, u] w fun e w' => e = .returned (.bool (decide (x = y))) ∧ Sat W w' (sep (kn I) A) := by
  obtain ⟨a, c, rfl, h1⟩ := conv_str v x hv h.ext
  obtain ⟨a2, c2, rfl, h2⟩ := conv_str u y hu h.ext
  obtain ⟨n1, hn1⟩ : ∃ n1, n1 = x.length := ⟨_, rfl⟩
  obtain ⟨n2, hn2⟩ : ∃ n2, n2 = y.length := ⟨_, rfl⟩
  obtain ⟨s1, hs1⟩ : ∃ s1 : ByteArray, s1 = ⟨x.toArray⟩ := ⟨_, rfl⟩
  obtain ⟨s2, hs2⟩ : ∃ s2 : ByteArray, s2 = ⟨y.toArray⟩ := ⟨_, rfl⟩
  rw [← hn1, ← hs1] at h1
  rw [← hn2, ← hs2] at h2
  rw [← hn1, ← hn2]
  have he : (s1 = s2) ↔ x = y := by
    rw [hs1, hs2]
    constructor
    · intro e; have := congrArg (fun b => b.data.toList) e; simpa using this
    · rintro rfl; rfl
  have HE := Lib.hid he
  clear he hn1 hn2 hs1 hs2 hv hu
  go_enter Tryz.func80, Tryz.ntmps80
  go_wp2_with fail
  go_ret
  refine ⟨?_, h⟩
  by_cases e : s1 = s2
  · rw [decide_eq_true (HE.out.1 e)]; simp [e]
  · rw [decide_eq_false (fun e' => e (HE.out.2 e'))]
    have hne : (s1.toList == s2.toList) = false := by
      rw [beq_eq_false_iff_ne, ByteArray.toList_eq, ByteArray.toList_eq]
      exact fun h => e (ByteArray.ext (Array.toList_inj.1 h))
    rw [hne]
    rfl
theorem rel_take {I : Mem} {a : Option Addr} {n c : Nat} {l : List UInt8} (k : Nat) (hn : n = l.length) (hk : k ≤ n) (hv : rBytes.rel I [.slice a n c] l) : rBytes.rel I [.slice a k c] (l.take k) := by
  subst hn
  obtain ⟨a', c', e, hw, hc⟩ := bytes_rel.1 hv
  cases e
  have hl : (l.take k).length = k := by simp; omega
  refine bytes_rel.2 ⟨a, c, by rw [hl], ⟨by rw [hl]; have := hw.1; omega, hw.2.1, hw.2.2⟩, ?_⟩
  rcases hc with hc | ⟨b', o', cs, t, f, e1, e2, e3⟩
  · left
    have : l = [] := by simpa using hc
    rw [this]; simp
  · right
    refine ⟨b', o', cs, t, f, e1, e2, fun i u hu => e3 i u ?_⟩
    rw [List.map_take, List.getElem?_take] at hu
    split at hu
    · exact hu
    · cases hu
set_option maxHeartbeats 1000000 in
theorem hasprefix_spec {W w : World} {A : Assn} {I : Mem} (v u : Value) (x y : List UInt8) (h : Sat W w (sep (kn I) A)) (hv : rBytes.rel I [v] x) (hu : rBytes.rel I [u] y) :
    Calls Tryz.prog 62 #[v, u] w fun e w' => e = .returned (.bool (decide (x.take y.length = y))) ∧ Sat W w' (sep (kn I) A) := by
  obtain ⟨a, c, rfl, hsw, -⟩ := bytes_rel.1 hv
  obtain ⟨a2, c2, rfl, hsw2, -⟩ := bytes_rel.1 hu
  have hcap := hsw.2.1
  have hcap2 := hsw2.2.1
  have hlc := hsw.1
  unfold maxLen at hcap hcap2
  obtain ⟨n1, hn1⟩ : ∃ n1, n1 = x.length := ⟨_, rfl⟩
  obtain ⟨n2, hn2⟩ : ∃ n2, n2 = y.length := ⟨_, rfl⟩
  rw [← hn1] at hlc
  by_cases hlt : n2 ≤ n1
  · have heq := bequal_spec (.slice a n2 c) (.slice a2 n2 c2) (x.take n2) y h (rel_take n2 hn1 (by omega) (by rw [← hn1] at hv; exact hv)) (by rw [hn2]; exact hu)
    have b1 : decide ((n2 : Int) ≤ (n1 : Int)) = true := by simp; omega
    rw [← hn2]
    have HEQ := Lib.hid heq
    rw [← hn1]
    have hc2 : n2 ≤ c := by omega
    clear heq hv hu hsw hsw2 hn1 hn2
    go_enter Tryz.func62, Tryz.ntmps62
    go_wp2_with fail
    refine HEQ.out.mono ?_
    rintro e w2 ⟨rfl, h2⟩
    clear h HEQ
    go_wp2_with fail
    go_ret
    exact ⟨rfl, h2⟩
  · have e : decide (x.take y.length = y) = false := by
      rw [decide_eq_false_iff_not]
      intro e
      have := congrArg List.length e
      rw [List.length_take] at this
      omega
    rw [e, ← hn1, ← hn2]
    clear hv hu hsw hsw2 hn1 hn2 e
    go_enter Tryz.func62, Tryz.ntmps62
    go_wp2_with fail
    go_ret
    exact ⟨rfl, h⟩
end Go.Proofs.YtdaknmcmjnbfeaaGreat
