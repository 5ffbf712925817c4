/- Package channel: Encode, and the reference's. -/
import Derived.Test.YtnmkdidhilekiaaW9
import Derived.Test.YtnmkdidhilekiaaCh6
import Derived.Test.YtnmkdidhilekiaaRm
import Derived.Deep.DeepCutAuto
namespace Go.Proofs.Ytnmkdidhilekiaa
open Go.RowKit PA
def parcel : List UInt8 := [112, 97, 114, 99, 101, 108]
def coreP (p : Pkt) : List UInt8 := encI p.seq ++ (encI p.ack ++ encR p.b)
def wholeP (c : List UInt8) : List UInt8 := encR c ++ Lib.uvarint (bytesN parcel c)
def validP (p : Pkt) : Bool := validB p.seq p.ack p.b.length
def I64 (n : Int) : Prop := -9223372036854775808 ≤ n ∧ n ≤ 9223372036854775807
theorem encR_length (b : List UInt8) (h : b.length ≤ 1073741824) : (encR b).length ≤ b.length + 10 := by
  rw [encR, List.length_append]
  have := Lib.uvarint_length64 (x := b.length) (by omega)
  omega
theorem coreP_length (p : Pkt) (h1 : I64 p.seq) (h2 : I64 p.ack) (h3 : p.b.length ≤ 1000000) : (coreP p).length ≤ p.b.length + 30 := by
  rw [coreP, List.length_append, List.length_append]
  have := encI_length p.seq h1.1 h1.2
  have := encI_length p.ack h2.1 h2.2
  have := encR_length p.b (by omega)
  omega
theorem bytesN_lt (s b : List UInt8) : bytesN s b < 18446744073709551616 := sumU_lt _ _
theorem wholeP_length (c : List UInt8) (h : c.length ≤ 1000100) : (wholeP c).length ≤ c.length + 20 := by
  rw [wholeP, List.length_append]
  have := encR_length c (by omega)
  have := Lib.uvarint_length64 (bytesN_lt parcel c)
  omega
set_option maxHeartbeats 1000000 in
theorem encode_no {W w : World} {A : Assn} {I : Mem} (p : Pkt) (v : Value) (h : Sat W w (sep (kn I) A)) (hv : rBytes.rel I [v] p.b) (hok : validP p = false) :
    Calls Try.prog 28 #[.agg #[.int .i64 p.seq, .int .i64 p.ack, v]] w fun e w' => e = .returned (.tuple #[.slice none 0 0, .int .i64 1]) ∧ Sat W w' (sep (kn I) A) := by
  obtain ⟨a, c, rfl, hsw, -⟩ := bytes_rel.1 hv
  have hok' : validB p.seq p.ack p.b.length = false := hok
  have hvs := fun w0 (h0 : Sat W w0 (sep (kn I) A)) => valid_spec p.seq p.ack a p.b.length c h0 (Nat.le_trans hsw.1 hsw.2.1)
  rw [hok'] at hvs
  have HV := Lib.hid hvs
  have h1 := h.alloc0 (.cells #[.int .i64 p.seq, .int .i64 p.ack, .slice a p.b.length c] 44)
  clear hok hok' hvs hsw hv h
  go_enter Try.func28, Try.ntmps28
  go_wp2_with fail
  refine (HV.out _ h1).mono ?_
  rintro e w2 ⟨rfl, h2⟩
  clear h1
  go_wp2_with fail
  go_ret2
  exact ⟨rfl, h2⟩
theorem ext_cell {J : Mem} {q i : Nat} {cs : Array Value} {t : TypeId} {f : Nat × Nat} (hJ : J q = some (.cells cs t f)) {w' : World} (he : Ext J w') : w'.cell? ⟨q, i, none⟩ = cs[i]? :=
  cell_of_row w' q i cs t f (he _ _ hJ)
theorem newWr {W w : World} {A : Assn} (h : Sat W w A) : Sat W (w.alloc (.cells #[.slice none 0 0] 78)) (sep (isWr w.heap.size []) A) :=
  isWr_mk (a := none) (n := 0) (c := 0) (bs := []) ((h.osl_nil 5 1).alloc (.cells #[.slice none 0 0] 78))
set_option maxHeartbeats 2000000 in
theorem encode_ok {W w : World} {A : Assn} {I : Mem} (p : Pkt) (v : Value) (h : Sat W w (sep (kn I) A)) (hv : rBytes.rel I [v] p.b) (hok : validP p = true) (h1 : I64 p.seq) (h2 : I64 p.ack) (h3 : p.b.length ≤ 1000000) :
    Calls Try.prog 28 #[.agg #[.int .i64 p.seq, .int .i64 p.ack, v]] w fun e w' => ∃ a c, e = .returned (.tuple #[.slice a (wholeP (coreP p)).length c, .int .i64 0]) ∧ Sat W w' (sep (osl 5 1 a (wholeP (coreP p)).length c ((wholeP (coreP p)).map bv)) (sep (kn I) A)) := by
  obtain ⟨a, c, rfl, hsw, -⟩ := bytes_rel.1 hv
  have hok' : validB p.seq p.ack p.b.length = true := hok
  have hvs := fun w0 (A0 : Assn) (h0 : Sat W w0 A0) => valid_spec p.seq p.ack a p.b.length c h0 (Nat.le_trans hsw.1 hsw.2.1)
  rw [hok'] at hvs
  have HV := Lib.hid hvs
  obtain ⟨J, hle, hJ, hS⟩ := (h.alloc (.cells #[.int .i64 p.seq, .int .i64 p.ack, .slice a p.b.length c] 44)).settle.learn
  obtain ⟨q, hq⟩ : ∃ q, q = w.heap.size := ⟨_, rfl⟩
  rw [← hq] at hJ
  have HJ := Lib.hid hJ
  have HLE := Lib.hid hle
  have HVJ := Lib.hid (rBytes.mono hle hv)
  have H1 := Lib.hid h1
  have H2 := Lib.hid h2
  have H3 := Lib.hid h3
  have HCL := Lib.hid (coreP_length p h1 h2 h3)
  clear hok hok' hvs hsw hv h hJ hle h1 h2 h3
  go_enter Try.func28, Try.ntmps28
  go_wp2_with fail
  refine (HV.out _ _ hS).mono ?_
  rintro e w2 ⟨rfl, hS2⟩
  rw [← hq]
  have HQ := Lib.hid hq
  have hW1 := newWr hS2
  have hW2 := newWr hW1
  rw [World.size_alloc] at hW2
  obtain ⟨p1, hp1⟩ : ∃ p1, p1 = w2.heap.size := ⟨_, rfl⟩
  obtain ⟨w3, hw3⟩ : ∃ w3, w3 = (w2.alloc (.cells #[.slice none 0 0] 78)).alloc (.cells #[.slice none 0 0] 78) := ⟨_, rfl⟩
  rw [← hp1, ← hw3] at hW2
  have hx := hW2.p1.p2.ext
  have c0 : w3.cell? ⟨q, 0, none⟩ = some (.int .i64 p.seq) := ext_cell HJ.out hx
  have HP1 := Lib.hid hp1
  have HW3 := Lib.hid hw3
  clear hq hS hS2 hW1 hp1 hw3 hx
  go_upto_region 4 with (fail)
  rw [← HP1.out, ← HW3.out]
  go_wp2_with fail
  refine (wint_spec p1 [] p.seq H1.out.1 H1.out.2 hW2.p1 (by simp)).mono ?_
  rintro e w4 ⟨rfl, hS4⟩
  rw [List.nil_append] at hS4
  have c1 : w4.cell? ⟨q, 1, none⟩ = some (.int .i64 p.ack) := ext_cell HJ.out hS4.p2.ext
  clear c0 hW2
  go_wp2_with fail
  refine (wint_spec p1 _ p.ack H2.out.1 H2.out.2 hS4 (by have := encI_length p.seq H1.out.1 H1.out.2; omega)).mono ?_
  rintro e w5 ⟨rfl, hS5⟩
  have c2 : w5.cell? ⟨q, 2, none⟩ = some (.slice a p.b.length c) := ext_cell HJ.out hS5.p2.ext
  clear c1 hS4
  go_wp2_with fail
  refine (wraw_spec p1 _ _ p.b hS5.p2.q1 HVJ.out (by have := encI_length p.seq H1.out.1 H1.out.2; have := encI_length p.ack H2.out.1 H2.out.2; rw [List.length_append]; omega) (by have := H3.out; omega)).mono ?_
  rintro e w6 ⟨rfl, hS6⟩
  obtain ⟨cb, hcb⟩ : ∃ cb, cb = coreP p := ⟨_, rfl⟩
  have hcb2 : encI p.seq ++ encI p.ack ++ encR p.b = cb := by rw [hcb, coreP, List.append_assoc]
  rw [hcb2] at hS6
  have hcbl : cb.length ≤ 1000030 := by rw [hcb]; have := HCL.out; have := H3.out; omega
  have HCB := Lib.hid hcb
  have HCBL := Lib.hid hcbl
  clear c2 hS5 hcb hcb2 hcbl
  go_wp2_with fail
  refine (wdone_spec p1 cb hS6 (by have := HCBL.out; omega)).mono ?_
  rintro e w7 ⟨a7, c7, rfl, hS7⟩
  have h7 : Sat W w7 (sep (rBytes.is [.slice a7 cb.length c7] cb) (sep (kn J) (sep (isWr p1 cb) (sep (isWr (p1 + 1) []) A)))) := by
    have := hS7.bytes_of_osl.2
    simpa only [sep_comm, sep_lcomm, sep_assoc] using this
  obtain ⟨J2, hle2, hb2, hS8⟩ := h7.learn
  have h8 : Sat W w7 (sep (isWr (p1 + 1) []) (sep (kn J2) (sep (isWr p1 cb) A))) := by simpa only [sep_comm, sep_lcomm, sep_assoc] using hS8
  have HB2 := Lib.hid hb2
  have HLE2 := Lib.hid hle2
  clear hS6 hS7 h7 hS8 hb2 hle2
  go_wp2_with fail
  refine (wraw_spec (p1 + 1) [] _ cb h8 HB2.out (by simp) (by have := HCBL.out; omega)).mono ?_
  rintro e w8 ⟨rfl, hS9⟩
  rw [List.nil_append] at hS9
  clear h8 HB2
  go_wp2_with fail
  have h9 : Sat W w8 (sep (isWr p1 cb) (sep (isWr (p1 + 1) (encR cb)) (sep (kn J2) A))) := by simpa only [sep_comm, sep_lcomm, sep_assoc] using hS9
  refine (wdone_spec p1 cb h9 (by have := HCBL.out; omega)).mono ?_
  rintro e w9 ⟨a9, c9, rfl, hS10⟩
  have h10 : Sat W w9 (sep (rBytes.is [.slice a9 cb.length c9] cb) (sep (kn J2) (sep (isWr p1 cb) (sep (isWr (p1 + 1) (encR cb)) A)))) := by
    have := hS10.bytes_of_osl.2
    simpa only [sep_comm, sep_lcomm, sep_assoc] using this
  obtain ⟨J3, hle3, hb3, hS11⟩ := h10.learn
  have HB3 := Lib.hid hb3
  have HLE3 := Lib.hid hle3
  clear hS9 h9 hS10 h10 hb3 hle3
  go_wp2_with fail
  refine (hbytes_any ⟨#[112, 97, 114, 99, 101, 108]⟩ _ cb hS11 HB3.out (by decide) (by have := HCBL.out; omega)).mono ?_
  rintro e w10 ⟨rfl, hS12⟩
  obtain ⟨hs, hhs⟩ : ∃ hs, hs = bytesN parcel cb := ⟨_, rfl⟩
  have hhs2 : bytesN (ByteArray.mk #[112, 97, 114, 99, 101, 108]).data.toList cb = hs := by rw [hhs]; rfl
  rw [hhs2]
  have hhl : hs < 18446744073709551616 := by rw [hhs]; exact bytesN_lt _ _
  have HHL := Lib.hid hhl
  have HHS := Lib.hid hhs
  have hel := encR_length cb (by have := HCBL.out; omega)
  have HEL := Lib.hid hel
  clear hS11 HB3 hhs hhs2 hhl hel
  have h12 : Sat W w10 (sep (isWr (p1 + 1) (encR cb)) (sep (isWr p1 cb) (sep (kn J3) A))) := by simpa only [sep_comm, sep_lcomm, sep_assoc] using hS12
  clear hS12
  go_wp2_with fail
  refine (wuint_spec (p1 + 1) (encR cb) hs HHL.out h12 (by have := HCBL.out; have := HEL.out; omega)).mono ?_
  rintro e w11 ⟨rfl, hS13⟩
  clear h12
  obtain ⟨rb, hrb⟩ : ∃ rb, rb = wholeP (coreP p) := ⟨_, rfl⟩
  have hrb2 : encR cb ++ Lib.uvarint hs = rb := by rw [hrb, wholeP, ← HCB.out, ← HHS.out]
  rw [hrb2] at hS13
  have hrl : rb.length ≤ 1000100 := by rw [hrb]; have := wholeP_length (coreP p) (by rw [← HCB.out]; have := HCBL.out; omega); rw [← HCB.out] at this; have := HCBL.out; rw [← HCB.out]; omega
  have HRL := Lib.hid hrl
  have HRB := Lib.hid hrb
  clear hrb hrb2 hrl
  go_wp2_with fail
  refine (wdone_spec (p1 + 1) rb hS13 (by have := HRL.out; omega)).mono ?_
  rintro e w12 ⟨a12, c12, rfl, hS14⟩
  clear hS13
  go_wp2_with fail
  go_ret2
  rw [← HRB.out]
  refine ⟨a12, c12, rfl, ?_⟩
  have h15 := hS14.p1.drop.p1.drop
  exact (h15.p1.kn_mono (Mem.le_trans HLE.out (Mem.le_trans HLE2.out HLE3.out))).p1
end Go.Proofs.Ytnmkdidhilekiaa
