/- The reference's journal: Core, Frame. -/
import Derived.Test.YtdaknmcmjnbfeaaGJournalApart26
namespace Go.Proofs.Ytdaknmcmjnbfeaa
open Go.RowKit PA
/-- What may be appended. -/
structure SrcOk (w : World) (a : Option Addr) (n : Nat) (vs : List Value) : Prop where
  len : vs.length = n * 1
  nil : a = none → n = 0
  src : ∀ b, a = some b → ∀ j u, vs[j]? = some u → w.cell? (b.add j) = some u
  one : ∀ u ∈ vs, u.oneCell' = true
theorem osl_ok {W w : World} {A : Assn} {E : Nat} {a : Option Addr} {n c : Nat} {bs : List UInt8} (h : Sat W w (sep (osl E 1 a n c (bs.map bv)) A)) : SrcOk w a n (bs.map bv) :=
  ⟨h.osl_len.1, fun e => by have := h.swf_of_osl.2.2 e; have := h.swf_of_osl.1; omega, h.osl_src, bv_one bs⟩
set_option maxHeartbeats 2000000 in
theorem rcore_spec {W w : World} {A : Assn} {I : Mem} (n : Int) (v : Value) (b : List UInt8) (h : Sat W w (sep (kn I) A)) (hv : rBytes.rel I [v] b) (h1 : I64 n) (h3 : b.length ≤ 1000000) :
    Calls Try.prog 38 #[.int .i64 n, v] w fun e w' => ∃ a c, e = .returned (.slice a (coreJ n b).length c) ∧ Sat W w' (sep (osl 5 1 a (coreJ n b).length c ((coreJ n b).map bv)) (sep (kn I) A)) := by
  have HVJ := Lib.hid hv
  have H1 := Lib.hid h1
  have H3 := Lib.hid h3
  have L1 := Lib.hid (encI_length n h1.1 h1.2)
  have L3 := Lib.hid (encR_length b (by omega))
  clear hv h1 h3
  go_enter Try.func38, Try.ntmps38
  go_wp2_with fail
  refine (rint_spec n H1.out.1 H1.out.2 h).mono ?_
  rintro e w2 ⟨a1, c1, rfl, hS2⟩
  obtain ⟨n1, hn1⟩ : ∃ n1, n1 = (encI n).length := ⟨_, rfl⟩
  obtain ⟨v1, hv1⟩ : ∃ v1, v1 = (encI n).map bv := ⟨_, rfl⟩
  rw [← hn1, ← hv1] at hS2
  rw [← hn1]
  have HN1 := Lib.hid hn1
  have HV1 := Lib.hid hv1
  clear h hn1 hv1
  go_wp2_with fail
  refine (rraw_spec _ b hS2.p1 HVJ.out (by have := H3.out; omega)).mono ?_
  rintro e w5 ⟨a4, c4, rfl, hS6⟩
  obtain ⟨n3, hn3⟩ : ∃ n3, n3 = (encR b).length := ⟨_, rfl⟩
  obtain ⟨v3, hv3⟩ : ∃ v3, v3 = (encR b).map bv := ⟨_, rfl⟩
  rw [← hn3, ← hv3] at hS6
  rw [← hn3]
  have HN3 := Lib.hid hn3
  have HV3 := Lib.hid hv3
  have hok3 := osl_ok (bs := encR b) (by rw [← hv3]; exact hS6)
  rw [← hv3] at hok3
  have HOK3 := Lib.hid hok3
  have hB : Sat W w5 (sep (osl 5 1 a1 n1 c1 v1) (sep (kn I) (sep (osl 5 1 a4 n3 c4 v3) A))) := by simpa only [sep_comm, sep_lcomm, sep_assoc] using hS6
  clear hS2 hn3 hv3 hok3 hS6
  go_wp2_with (at_builtin; (refine wpl_append_osl rfl (.tmp 8) (.tmp 10) 23 rfl 5 1 1 (.int .u8 0) Try.underlying23 infoU8w rfl rfl hB rfl v3 HOK3.out.len HOK3.out.nil HOK3.out.src HOK3.out.one (by have := L1.out; have := L3.out; have := HN1.out; have := HN3.out; have := H3.out; omega) (by have := L1.out; have := L3.out; have := HN1.out; have := HN3.out; have := H3.out; unfold maxLen; omega) ?_))
  intro a6 c6 w6 hS7
  have hl : n1 + n3 = (coreJ n b).length := by rw [coreJ, List.length_append, ← HN1.out, ← HN3.out]
  have h8 : Sat W w6 (sep (osl 5 1 a6 (coreJ n b).length c6 ((coreJ n b).map bv)) (sep (kn I) A)) := by
    rw [← hl, coreJ, List.map_append, ← HV1.out, ← HV3.out]
    exact hS7.p2.drop.p1.p1
  have HL := Lib.hid hl
  clear hl hS7 hB
  go_wp2_with fail
  go_ret
  exact ⟨a6, c6, by rw [← HL.out]; rfl, h8⟩
set_option maxHeartbeats 2000000 in
theorem rframe_spec {W w : World} {A : Assn} {I : Mem} (n : Int) (v : Value) (b : List UInt8) (h : Sat W w (sep (kn I) A)) (hv : rBytes.rel I [v] b) (h1 : I64 n) (h3 : b.length ≤ 1000000) :
    Calls Try.prog 13 #[.int .i64 n, v] w fun e w' => ∃ a c, e = .returned (.slice a (frameJ n b).length c) ∧ Sat W w' (sep (osl 5 1 a (frameJ n b).length c ((frameJ n b).map bv)) (sep (kn I) A)) := by
  have hcore := rcore_spec n v b h hv h1 h3
  obtain ⟨fr, hfr⟩ : ∃ fr, fr = frameJ n b := ⟨_, rfl⟩
  obtain ⟨cb, hcb⟩ : ∃ cb, cb = coreJ n b := ⟨_, rfl⟩
  have hcl : cb.length ≤ 1000100 := by rw [hcb]; have := coreJ_length n b h1 h3; omega
  rw [← hcb] at hcore
  rw [← hfr]
  have HC := Lib.hid hcore
  have HFR := Lib.hid hfr
  have HCB := Lib.hid hcb
  have HL := Lib.hid hcl
  have L1 := Lib.hid (encR_length cb (by omega))
  clear hcore hfr hcb hcl h hv h1 h3
  go_enter Try.func13, Try.ntmps13
  go_wp2_with fail
  refine HC.out.mono ?_
  rintro e w0 ⟨a0, c0, rfl, hS0⟩
  obtain ⟨J, hle, hb, hS1⟩ := hS0.bytes_of_osl.2.learn
  obtain ⟨v2b, hv2b⟩ : ∃ v2b, v2b = Value.slice a0 cb.length c0 := ⟨_, rfl⟩
  rw [← hv2b] at hb
  rw [← hv2b]
  have HB := Lib.hid hb
  have HLE := Lib.hid hle
  clear HC hS0 hle hb hv2b
  go_wp2_with fail
  refine (rraw_spec v2b cb hS1 HB.out (by have := HL.out; omega)).mono ?_
  rintro e w2 ⟨a1, c1, rfl, hS2⟩
  obtain ⟨n1, hn1⟩ : ∃ n1, n1 = (encR cb).length := ⟨_, rfl⟩
  obtain ⟨v1, hv1⟩ : ∃ v1, v1 = (encR cb).map bv := ⟨_, rfl⟩
  rw [← hn1, ← hv1] at hS2
  rw [← hn1]
  have HN1 := Lib.hid hn1
  have HV1 := Lib.hid hv1
  clear hS1 hn1 hv1
  go_wp2_with fail
  refine (rhbytes_spec ⟨#[102, 114, 97, 109, 101]⟩ v2b cb hS2.p1 HB.out (by decide) (by have := HL.out; omega)).mono ?_
  rintro e w3 ⟨rfl, hS3⟩
  obtain ⟨hs, hhs⟩ : ∃ hs, hs = bytesN frameL cb := ⟨_, rfl⟩
  have hhs2 : bytesN (ByteArray.mk #[102, 114, 97, 109, 101]).data.toList cb = hs := by rw [hhs]; rfl
  rw [hhs2]
  have hhl : hs < 18446744073709551616 := by rw [hhs]; exact bytesN_lt _ _
  have HHL := Lib.hid hhl
  have HHS := Lib.hid hhs
  have L2 := Lib.hid (Lib.uvarint_length64 hhl)
  clear hhs hhs2 hhl hS2
  go_wp2_with fail
  refine (ruint_spec hs HHL.out hS3).mono ?_
  rintro e w4 ⟨a2, c2, rfl, hS4⟩
  obtain ⟨n2, hn2⟩ : ∃ n2, n2 = (Lib.uvarint hs).length := ⟨_, rfl⟩
  obtain ⟨v2, hv2⟩ : ∃ v2, v2 = (Lib.uvarint hs).map bv := ⟨_, rfl⟩
  rw [← hn2, ← hv2] at hS4
  rw [← hn2]
  have HN2 := Lib.hid hn2
  have HV2 := Lib.hid hv2
  have hok2 := osl_ok (bs := Lib.uvarint hs) (by rw [← hv2]; exact hS4)
  rw [← hv2] at hok2
  have HOK2 := Lib.hid hok2
  have hB : Sat W w4 (sep (osl 5 1 a1 n1 c1 v1) (sep (kn J) (sep (osl 5 1 a2 n2 c2 v2) A))) := by simpa only [sep_comm, sep_lcomm, sep_assoc] using hS4
  clear hS3 hn2 hv2 hok2 hS4
  go_wp2_with (at_builtin; (refine wpl_append_osl rfl (.tmp 12) (.tmp 15) 23 rfl 5 1 1 (.int .u8 0) Try.underlying23 infoU8w rfl rfl hB rfl v2 HOK2.out.len HOK2.out.nil HOK2.out.src HOK2.out.one (by have := L1.out; have := L2.out; have := HN1.out; have := HN2.out; have := HL.out; omega) (by have := L1.out; have := L2.out; have := HN1.out; have := HN2.out; have := HL.out; unfold maxLen; omega) ?_))
  intro a6 c6 w6 hS7
  have hl : n1 + n2 = (fr).length := by rw [HFR.out, frameJ, ← HCB.out, List.length_append, ← HHS.out, ← HN1.out, ← HN2.out]
  have h8 : Sat W w6 (sep (osl 5 1 a6 (fr).length c6 ((fr).map bv)) (sep (kn I) A)) := by
    rw [← hl, HFR.out, frameJ, ← HCB.out, List.map_append, ← HHS.out, ← HV1.out, ← HV2.out]
    exact (hS7.p2.drop.p1.kn_mono HLE.out).p1
  have HL9 := Lib.hid hl
  clear hl hS7 hB
  go_wp2_with fail
  go_ret
  exact ⟨a6, c6, by rw [← HL9.out]; rfl, h8⟩
end Go.Proofs.Ytdaknmcmjnbfeaa
/- bytes.Equal, bytes.HasPrefix. -/
namespace Go.Proofs.Ytdaknmcmjnbfeaa
open Go.RowKit PA
theorem conv_str {I : Mem} {w : World} (v : Value) (b : List UInt8) (hv : rBytes.rel I [v] b) (hx : Ext I w) : ∃ a c, v = .slice a b.length c ∧ (convert 23 9 v).run Try.prog w = .ok (.string ⟨b.toArray⟩) w := by
  obtain ⟨a, c, rfl, hsw, hc⟩ := bytes_rel.1 hv
  have hsrc := src_ext hc hx
  refine ⟨a, c, rfl, ?_⟩
  cases a with
  | none =>
    have hc0 := hsw.2.2 rfl
    have hb0 : b = [] := List.eq_nil_of_length_eq_zero (by have := hsw.1; omega)
    subst hb0
    simp [convert, run_underlying Try.underlying23, run_underlying Try.underlying9, run_underlying Try.underlying5, Conv.bytesToString]
    rfl
  | some ad =>
    exact run_convert_bytes_back (P := Try.prog) w 23 9 5 ad c b Try.underlying23 Try.underlying5 Try.underlying9 (fun j hj => hsrc ad rfl j _ (by rw [List.getElem?_map, List.getElem?_eq_getElem hj]; rfl))
theorem bequal_spec {W w : World} {A : Assn} {I : Mem} (v u : Value) (x y : List UInt8) (h : Sat W w (sep (kn I) A)) (hv : rBytes.rel I [v] x) (hu : rBytes.rel I [u] y) :
    Calls Try.prog 78 #[v, u] w fun e w' => e = .returned (.bool (decide (x = y))) ∧ Sat W w' (sep (kn I) A) := by
  obtain ⟨a, c, rfl, h1⟩ := conv_str v x hv h.ext
  obtain ⟨a2, c2, rfl, h2⟩ := conv_str u y hu h.ext
  obtain ⟨n1, hn1⟩ : ∃ n1, n1 = x.length := ⟨_, rfl⟩
  obtain ⟨n2, hn2⟩ : ∃ n2, n2 = y.length := ⟨_, rfl⟩
  obtain ⟨s1, hs1⟩ : ∃ s1 : ByteArray, s1 = ⟨x.toArray⟩ := ⟨_, rfl⟩
  obtain ⟨s2, hs2⟩ : ∃ s2 : ByteArray, s2 = ⟨y.toArray⟩ := ⟨_, rfl⟩
  rw [← hn1, ← hs1] at h1
  rw [← hn2, ← hs2] at h2
  rw [← hn1, ← hn2]
  have he : (s1 = s2) ↔ x = y := by
    rw [hs1, hs2]
    constructor
    · intro e; have := congrArg (fun b => b.data.toList) e; simpa using this
    · rintro rfl; rfl
  have HE := Lib.hid he
  clear he hn1 hn2 hs1 hs2 hv hu
  go_enter Try.func78, Try.ntmps78
  go_wp2_with fail
  go_ret
  refine ⟨?_, h⟩
  by_cases e : s1 = s2
  · rw [decide_eq_true (HE.out.1 e)]; simp [e]
  · rw [decide_eq_false (fun e' => e (HE.out.2 e'))]
    have hne : (s1.toList == s2.toList) = false := by
      rw [beq_eq_false_iff_ne, ByteArray.toList_eq, ByteArray.toList_eq]
      exact fun h => e (ByteArray.ext (Array.toList_inj.1 h))
    rw [hne]
    rfl
theorem rel_take {I : Mem} {a : Option Addr} {n c : Nat} {l : List UInt8} (k : Nat) (hn : n = l.length) (hk : k ≤ n) (hv : rBytes.rel I [.slice a n c] l) : rBytes.rel I [.slice a k c] (l.take k) := by
  subst hn
  obtain ⟨a', c', e, hw, hc⟩ := bytes_rel.1 hv
  cases e
  have hl : (l.take k).length = k := by simp; omega
  refine bytes_rel.2 ⟨a, c, by rw [hl], ⟨by rw [hl]; have := hw.1; omega, hw.2.1, hw.2.2⟩, ?_⟩
  rcases hc with hc | ⟨b', o', cs, t, f, e1, e2, e3⟩
  · left
    have : l = [] := by simpa using hc
    rw [this]; simp
  · right
    refine ⟨b', o', cs, t, f, e1, e2, fun i u hu => e3 i u ?_⟩
    rw [List.map_take, List.getElem?_take] at hu
    split at hu
    · exact hu
    · cases hu
set_option maxHeartbeats 1000000 in
theorem hasprefix_spec {W w : World} {A : Assn} {I : Mem} (v u : Value) (x y : List UInt8) (h : Sat W w (sep (kn I) A)) (hv : rBytes.rel I [v] x) (hu : rBytes.rel I [u] y) :
    Calls Try.prog 67 #[v, u] w fun e w' => e = .returned (.bool (decide (x.take y.length = y))) ∧ Sat W w' (sep (kn I) A) := by
  obtain ⟨a, c, rfl, hsw, -⟩ := bytes_rel.1 hv
  obtain ⟨a2, c2, rfl, hsw2, -⟩ := bytes_rel.1 hu
  have hcap := hsw.2.1
  have hcap2 := hsw2.2.1
  have hlc := hsw.1
  unfold maxLen at hcap hcap2
  obtain ⟨n1, hn1⟩ : ∃ n1, n1 = x.length := ⟨_, rfl⟩
  obtain ⟨n2, hn2⟩ : ∃ n2, n2 = y.length := ⟨_, rfl⟩
  rw [← hn1] at hlc
  by_cases hlt : n2 ≤ n1
  · have heq := bequal_spec (.slice a n2 c) (.slice a2 n2 c2) (x.take n2) y h (rel_take n2 hn1 (by omega) (by rw [← hn1] at hv; exact hv)) (by rw [hn2]; exact hu)
    have b1 : decide ((n2 : Int) ≤ (n1 : Int)) = true := by simp; omega
    rw [← hn2]
    have HEQ := Lib.hid heq
    rw [← hn1]
    have hc2 : n2 ≤ c := by omega
    clear heq hv hu hsw hsw2 hn1 hn2
    go_enter Try.func67, Try.ntmps67
    go_wp2_with fail
    refine HEQ.out.mono ?_
    rintro e w2 ⟨rfl, h2⟩
    clear h HEQ
    go_wp2_with fail
    go_ret
    exact ⟨rfl, h2⟩
  · have e : decide (x.take y.length = y) = false := by
      rw [decide_eq_false_iff_not]
      intro e
      have := congrArg List.length e
      rw [List.length_take] at this
      omega
    rw [e, ← hn1, ← hn2]
    clear hv hu hsw hsw2 hn1 hn2 e
    go_enter Try.func67, Try.ntmps67
    go_wp2_with fail
    go_ret
    exact ⟨rfl, h⟩
end Go.Proofs.Ytdaknmcmjnbfeaa
/- journal.record. -/
namespace Go.Proofs.Ytdaknmcmjnbfeaa
open Go.RowKit PA
theorem stU_le (l : List UInt8) : (stR (.ok l)).1.length ≤ l.length := by
  rcases stU_cases (.ok l) with ⟨e, he⟩ | ⟨n, l', he⟩
  · rw [stR_er he]; exact Nat.zero_le _
  · have hd : l'.length ≤ l.length := by
      unfold stU at he; dsimp only at he
      cases hu : uintP l with
      | error e => rw [hu] at he; simp at he
      | ok x =>
        obtain ⟨m, l2⟩ := x
        rw [hu] at he; simp at he
        obtain ⟨-, k, e⟩ := uintGo_lt l 0 0 (by omega) (by decide) m l2 hu
        rw [← he.2, e, List.length_drop]; omega
    rw [stR_ok he]
    split
    · exact Nat.zero_le _
    · show (l'.take n).length ≤ _
      rw [List.length_take]; omega
set_option maxHeartbeats 2000000 in
theorem record_spec {W w : World} {A : Assn} {I : Mem} (v : Value) (l : List UInt8) (h : Sat W w (sep (kn I) A)) (hv : rBytes.rel I [v] l) (hl : l.length ≤ 1000200) :
    Calls Try.prog 66 #[v] w fun e w' => ∃ u, e = .returned u ∧ Sat W w' (sep (rBytes.is [u] (recJ l)) (sep (kn I) A)) := by
  obtain ⟨a, c, rfl, hsw, -⟩ := bytes_rel.1 hv
  have hlc := hsw.1
  have hcap := hsw.2.1
  unfold maxLen at hcap
  obtain ⟨n, hn⟩ : ∃ n, n = l.length := ⟨_, rfl⟩
  rw [← hn] at hlc hl hv ⊢
  obtain ⟨k1, hk1⟩ : ∃ k1, k1 = min n 10 := ⟨_, rfl⟩
  have hr1 := rel_take k1 hn (by omega) hv
  have ht1 : l.take k1 = l.take 10 := by
    rw [hk1, hn]
    by_cases h10 : l.length ≤ 10
    · rw [Nat.min_eq_left h10, List.take_length, List.take_of_length_le h10]
    · rw [Nat.min_eq_right (by omega)]
  rw [ht1] at hr1
  have hk1c : k1 ≤ c := by omega
  have hr2 : Sat W w (sep (rBytes.is [.slice a k1 c] (l.take 10)) (sep (kn I) A)) := h.tell hr1
  have HR1 := Lib.hid hr2
  have HN := Lib.hid hn
  have HV := Lib.hid hv
  have HL := Lib.hid hl
  have HK1 := Lib.hid hk1
  clear hsw hn hk1 hr1 hr2 ht1 hv h
  have hcs : (n : Int) ≤ 10 ∧ n = k1 ∨ 10 < (n : Int) ∧ k1 = 10 := by have := HK1.out; omega
  clear hcap
  go_enter Try.func66, Try.ntmps66
  rcases hcs with ⟨hc1, rfl⟩ | ⟨hc1, rfl⟩
  all_goals
    go_wp2_with fail
    refine (read_spec _ _ HR1.out (by rw [List.length_take]; omega)).mono ?_
    rintro e w2 ⟨p1, rfl, hS2⟩
    clear HR1
    go_wp2_with fail
    refine (rduint_spec p1 _ hS2 (by show (l.take 10).length ≤ _; rw [List.length_take]; omega)).mono ?_
    rintro e w3 ⟨rfl, hS3⟩
    have h3 : Sat W w3 (sep (kn I) A) := hS3.drop.drop
    obtain ⟨hd, hhd⟩ : ∃ hd, hd = headJ l := ⟨_, rfl⟩
    have hhd2 : (stU (.ok (l.take 10))).1 = hd := by rw [hhd, headJ]
    rw [hhd2]
    have HHD := Lib.hid hhd
    clear hS2 hS3 hhd hhd2
    obtain ⟨mm, hmm⟩ : ∃ mm, mm = min hd n := ⟨_, rfl⟩
    obtain ⟨k2, hk2⟩ : ∃ k2, k2 = min n (10 + mm) := ⟨_, rfl⟩
    have HK2 := Lib.hid hk2
    have HMM := Lib.hid hmm
    have hc2 : (hd : Int) ≤ (n : Int) ∧ mm = hd ∨ (n : Int) < (hd : Int) ∧ mm = n := by omega
    have hc3 : (n : Int) ≤ 10 + (mm : Int) ∧ k2 = n ∨ 10 + (mm : Int) < (n : Int) ∧ k2 = 10 + mm := by omega
    have hw1 : IntKind.u64.wrap (n : Int) = (n : Nat) := wraps_u64 _ (by omega) (by omega)
    have hw2 : IntKind.u64.wrap (10 + (mm : Int)) = ((10 + mm : Nat) : Int) := by rw [show (10 : Int) + (mm : Int) = ((10 + mm : Nat) : Int) by omega]; exact wraps_u64 _ (by omega) (by omega)
    clear hc1 hk1c hmm hk2
    go_upto_region 3 with (fail)
    have hkn : k2 ≤ n := by rw [HK2.out]; exact Nat.min_le_left _ _
    have hr := rel_take k2 HN.out hkn HV.out
    have hct : l.take k2 = cutJ l := by
      rw [cutJ, ← HHD.out, HK2.out, HMM.out, ← HN.out]
      by_cases hq : n ≤ 10 + min hd n
      · rw [Nat.min_eq_left hq, List.take_of_length_le (by rw [← HN.out]; omega), List.take_of_length_le (by rw [← HN.out]; omega)]
      · rw [Nat.min_eq_right (by omega)]
    rw [hct] at hr
    have h4 : Sat W w3 (sep (rBytes.is [.slice a k2 c] (cutJ l)) (sep (kn I) A)) := h3.tell hr
    have hcl : (cutJ l).length ≤ 1000200 := by rw [← hct, List.length_take]; omega
    have HR4 := Lib.hid h4
    have HCT := Lib.hid hcl
    have hk2c : k2 ≤ c := by omega
    clear h3 hr hct h4 hcl hkn
    rcases hc2 with ⟨hc2, rfl⟩ | ⟨hc2, rfl⟩ <;> rcases hc3 with ⟨hc3, rfl⟩ | ⟨hc3, rfl⟩
    all_goals
      go_wp2_with fail
      refine (read_spec _ _ HR4.out (by have := HCT.out; omega)).mono ?_
      rintro e w5 ⟨p2, rfl, hS5⟩
      clear HR4
      go_wp2_with fail
      refine (rdraw_spec p2 _ hS5 (by show (cutJ l).length ≤ _; have := HCT.out; omega)).mono ?_
      rintro e w6 ⟨vc, rfl, hS6⟩
      obtain ⟨cb, hcb⟩ : ∃ cb, cb = (stR (.ok (cutJ l))).1 := ⟨_, rfl⟩
      have hcbl : cb.length ≤ 1000200 := by rw [hcb]; have := stU_le (cutJ l); have := HCT.out; omega
      rw [← hcb] at hS6
      have h6 : Sat W w6 (sep (rBytes.is [vc] cb) (sep (kn I) A)) := by
        have := hS6.p1.drop.p1.drop
        simpa only [sep_comm, sep_lcomm, sep_assoc] using this
      have HCBL := Lib.hid hcbl
      have HCB := Lib.hid hcb
      clear hS5 hS6 hcb hcbl
      go_wp2_with fail
      refine (read_spec vc cb h6 (by have := HCBL.out; omega)).mono ?_
      rintro e w7 ⟨p3, rfl, hS7⟩
      clear h6
      go_wp2_with fail
      refine (rdint_spec p3 _ hS7 (by show cb.length ≤ _; have := HCBL.out; omega)).mono ?_
      rintro e w8 ⟨rfl, hS8⟩
      clear hS7
      go_wp2_with fail
      have hsm : RSt.small (stI (.ok cb)).2 := stU_small (by show cb.length ≤ _; have := HCBL.out; omega)
      refine (rdraw_spec p3 _ hS8 hsm).mono ?_
      rintro e w9 ⟨u, rfl, hS9⟩
      clear hS8 hsm
      go_wp2_with fail
      go_ret
      refine ⟨u, rfl, ?_⟩
      rw [recJ, ← HCB.out]
      have h10 := hS9.p1.drop.p1.drop
      simpa only [sep_comm, sep_lcomm, sep_assoc] using h10
end Go.Proofs.Ytdaknmcmjnbfeaa
