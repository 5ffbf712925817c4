/- Package journal: Frame. -/
import Derived.Test.YtdaknmcmjnbfeaaW9
import Derived.Test.YtdaknmcmjnbfeaaJp
import Derived.Deep.DeepCutAuto
namespace Go.Proofs.Ytdaknmcmjnbfeaa
open Go.RowKit PA
def I64 (n : Int) : Prop := -9223372036854775808 ≤ n ∧ n ≤ 9223372036854775807
theorem encR_length (b : List UInt8) (h : b.length ≤ 1073741824) : (encR b).length ≤ b.length + 10 := by
  rw [encR, List.length_append]
  have := Lib.uvarint_length64 (x := b.length) (by omega)
  omega
theorem bytesN_lt (s b : List UInt8) : bytesN s b < 18446744073709551616 := sumU_lt _ _
theorem coreJ_length (n : Int) (b : List UInt8) (h1 : I64 n) (hb : b.length ≤ 1000000) : (coreJ n b).length ≤ b.length + 20 := by
  rw [coreJ, List.length_append]
  have := encI_length n h1.1 h1.2
  have := encR_length b (by omega)
  omega
theorem ext_cell {J : Mem} {q i : Nat} {cs : Array Value} {t : TypeId} {f : Nat × Nat} (hJ : J q = some (.cells cs t f)) {w' : World} (he : Ext J w') : w'.cell? ⟨q, i, none⟩ = cs[i]? :=
  cell_of_row w' q i cs t f (he _ _ hJ)
theorem newWr {W w : World} {A : Assn} (h : Sat W w A) : Sat W (w.alloc (.cells #[.slice none 0 0] 37)) (sep (isWr w.heap.size []) A) :=
  isWr_mk (a := none) (n := 0) (c := 0) (bs := []) ((h.osl_nil 5 1).alloc (.cells #[.slice none 0 0] 37))
set_option maxHeartbeats 2000000 in
theorem jframe_spec {W w : World} {A : Assn} {I : Mem} (n : Int) (v : Value) (b : List UInt8) (h : Sat W w (sep (kn I) A)) (hv : rBytes.rel I [v] b) (h1 : I64 n) (h3 : b.length ≤ 1000000) :
    Calls Try.prog 12 #[.int .i64 n, v] w fun e w' => ∃ a c, e = .returned (.slice a (frameJ n b).length c) ∧ Sat W w' (sep (osl 5 1 a (frameJ n b).length c ((frameJ n b).map bv)) (sep (kn I) A)) := by
  obtain ⟨a, c, rfl, hsw, -⟩ := bytes_rel.1 hv
  have HV := Lib.hid hv
  have H1 := Lib.hid h1
  have H3 := Lib.hid h3
  have HCL := Lib.hid (coreJ_length n b h1 h3)
  have hW1 := newWr h
  have hW2 := newWr hW1
  rw [World.size_alloc] at hW2
  obtain ⟨p1, hp1⟩ : ∃ p1, p1 = w.heap.size := ⟨_, rfl⟩
  obtain ⟨w3, hw3⟩ : ∃ w3, w3 = (w.alloc (.cells #[.slice none 0 0] 37)).alloc (.cells #[.slice none 0 0] 37) := ⟨_, rfl⟩
  rw [← hp1, ← hw3] at hW2
  have HP1 := Lib.hid hp1
  have HW3 := Lib.hid hw3
  obtain ⟨nb, hnb⟩ : ∃ nb, nb = b.length := ⟨_, rfl⟩
  rw [← hnb] at HV ⊢
  clear hnb
  obtain ⟨rb, hrb⟩ : ∃ rb, rb = frameJ n b := ⟨_, rfl⟩
  have hrl : rb.length ≤ 1000040 := by rw [hrb]; have := frameJ_le n b h1.1 h1.2 (by omega); omega
  rw [← hrb]
  have HRL := Lib.hid hrl
  have HRB := Lib.hid hrb
  clear hrb hrl
  clear hsw hv h h1 h3 hW1 hp1 hw3
  go_enter Try.func12, Try.ntmps12
  go_upto_region 2 with (fail)
  rw [← HP1.out, ← HW3.out]
  go_wp2_with fail
  refine (wint_spec p1 [] n H1.out.1 H1.out.2 hW2.p1 (by simp)).mono ?_
  rintro e w4 ⟨rfl, hS4⟩
  rw [List.nil_append] at hS4
  have h4 : Sat W w4 (sep (isWr p1 (encI n)) (sep (kn I) (sep (isWr (p1 + 1) []) A))) := by simpa only [sep_comm, sep_lcomm, sep_assoc] using hS4
  have hlen : (encI n).length ≤ 1073741800 := by have := encI_length n H1.out.1 H1.out.2; omega
  have hraw := wraw_spec p1 (encI n) (.slice a nb c) b h4 HV.out hlen (by have := H3.out; omega)
  obtain ⟨cb, hcb⟩ : ∃ cb, cb = coreJ n b := ⟨_, rfl⟩
  have hcb2 : cb = encI n ++ encR b := by rw [hcb, coreJ]
  have HCB := Lib.hid hcb2
  have HCB1 := Lib.hid hcb
  have hcbl : cb.length ≤ 1000020 := by rw [hcb]; have := HCL.out; have := H3.out; omega
  have HCBL := Lib.hid hcbl
  have HRAW := Lib.hid hraw
  clear hW2 hS4 h4 hlen hraw hcb hcb2 hcbl
  go_wp2_with fail

  refine HRAW.out.mono ?_
  rintro e w6 ⟨rfl, hS6⟩
  rw [← HCB.out] at hS6
  clear HRAW
  go_wp2_with fail
  refine (wdone_spec p1 cb hS6 (by have := HCBL.out; omega)).mono ?_
  rintro e w7 ⟨a7, c7, rfl, hS7⟩
  have h7 : Sat W w7 (sep (rBytes.is [.slice a7 cb.length c7] cb) (sep (kn I) (sep (isWr p1 cb) (sep (isWr (p1 + 1) []) A)))) := by
    have := hS7.bytes_of_osl.2
    simpa only [sep_comm, sep_lcomm, sep_assoc] using this
  obtain ⟨J2, hle2, hb2, hS8⟩ := h7.learn
  have h8 : Sat W w7 (sep (isWr (p1 + 1) []) (sep (kn J2) (sep (isWr p1 cb) A))) := by simpa only [sep_comm, sep_lcomm, sep_assoc] using hS8
  have HB2 := Lib.hid hb2
  have HLE2 := Lib.hid hle2
  clear hS6 hS7 h7 hS8 hb2 hle2
  go_wp2_with fail
  refine (wraw_spec (p1 + 1) [] _ cb h8 HB2.out (by simp) (by have := HCBL.out; omega)).mono ?_
  rintro e w8 ⟨rfl, hS9⟩
  rw [List.nil_append] at hS9
  clear h8 HB2
  go_wp2_with fail
  have h9 : Sat W w8 (sep (isWr p1 cb) (sep (isWr (p1 + 1) (encR cb)) (sep (kn J2) A))) := by simpa only [sep_comm, sep_lcomm, sep_assoc] using hS9
  refine (wdone_spec p1 cb h9 (by have := HCBL.out; omega)).mono ?_
  rintro e w9 ⟨a9, c9, rfl, hS10⟩
  have h10 : Sat W w9 (sep (rBytes.is [.slice a9 cb.length c9] cb) (sep (kn J2) (sep (isWr p1 cb) (sep (isWr (p1 + 1) (encR cb)) A)))) := by
    have := hS10.bytes_of_osl.2
    simpa only [sep_comm, sep_lcomm, sep_assoc] using this
  obtain ⟨J3, hle3, hb3, hS11⟩ := h10.learn
  have HB3 := Lib.hid hb3
  have HLE3 := Lib.hid hle3
  clear hS9 h9 hS10 h10 hb3 hle3
  go_wp2_with fail
  refine (hbytes_any ⟨#[102, 114, 97, 109, 101]⟩ _ cb hS11 HB3.out (by decide) (by have := HCBL.out; omega)).mono ?_
  rintro e w10 ⟨rfl, hS12⟩
  obtain ⟨hs, hhs⟩ : ∃ hs, hs = bytesN frameL cb := ⟨_, rfl⟩
  have hhs2 : bytesN (ByteArray.mk #[102, 114, 97, 109, 101]).data.toList cb = hs := by rw [hhs]; rfl
  rw [hhs2]
  have hhl : hs < 18446744073709551616 := by rw [hhs]; exact bytesN_lt _ _
  have HHL := Lib.hid hhl
  have HHS := Lib.hid hhs
  have hel := encR_length cb (by have := HCBL.out; omega)
  have HEL := Lib.hid hel
  clear hS11 HB3 hhs hhs2 hhl hel
  have h12 : Sat W w10 (sep (isWr (p1 + 1) (encR cb)) (sep (isWr p1 cb) (sep (kn J3) A))) := by simpa only [sep_comm, sep_lcomm, sep_assoc] using hS12
  clear hS12
  go_wp2_with fail
  refine (wuint_spec (p1 + 1) (encR cb) hs HHL.out h12 (by have := HCBL.out; have := HEL.out; omega)).mono ?_
  rintro e w11 ⟨rfl, hS13⟩
  clear h12
  have hrb2 : encR cb ++ Lib.uvarint hs = rb := by rw [HRB.out, frameJ, ← HCB1.out, ← HHS.out]
  rw [hrb2] at hS13
  clear hrb2
  go_wp2_with fail
  refine (wdone_spec (p1 + 1) rb hS13 (by have := HRL.out; omega)).mono ?_
  rintro e w12 ⟨a12, c12, rfl, hS14⟩
  clear hS13
  go_wp2_with fail
  go_ret
  refine ⟨a12, c12, rfl, ?_⟩
  have h15 := hS14.p1.drop.p1.drop
  exact (h15.p1.kn_mono (Mem.le_trans HLE2.out HLE3.out)).p1
end Go.Proofs.Ytdaknmcmjnbfeaa
