/- Package channel: Decode. -/
import Derived.Test.YtnmkdidhilekiaaE2
namespace Go.Proofs.Ytnmkdidhilekiaa
open Go.RowKit PA
def noPkt : Pkt := ⟨0, 0, []⟩
def decHead (l : List UInt8) : Int := if stE (stU (stR (.ok l)).2).2 ≠ 0 then 2 else if (stU (stR (.ok l)).2).1 ≠ bytesN parcel (stR (.ok l)).1 then 11 else 0
def decPkt (c : List UInt8) : Pkt := ⟨(stI (.ok c)).1, (stI (stI (.ok c)).2).1, (stR (stI (stI (.ok c)).2).2).1⟩
def decTail (c : List UInt8) : Int := if stE (stR (stI (stI (.ok c)).2).2).2 ≠ 0 ∨ validP (decPkt c) = false then 2 else 0
def decP (l : List UInt8) : Pkt × Int := if decHead l ≠ 0 then (noPkt, decHead l) else if decTail (stR (.ok l)).1 ≠ 0 then (noPkt, decTail (stR (.ok l)).1) else (decPkt (stR (.ok l)).1, 0)
theorem stU_drop (l : List UInt8) : ∀ n l', stU (.ok l) = (n, .ok l') → l'.length ≤ l.length := by
  intro n l' h
  unfold stU at h; dsimp only at h
  cases hu : uintP l with
  | error e => rw [hu] at h; simp at h
  | ok x =>
    obtain ⟨m, l2⟩ := x
    rw [hu] at h; simp at h
    obtain ⟨-, k, e⟩ := uintGo_lt l 0 0 (by omega) (by decide) m l2 hu
    rw [← h.2, e, List.length_drop]; omega
theorem stR_le (l : List UInt8) : (stR (.ok l)).1.length ≤ l.length := by
  rcases stU_cases (.ok l) with ⟨e, he⟩ | ⟨n, l', he⟩
  · rw [stR_er he]; exact Nat.zero_le _
  · have := stU_drop l n l' he
    rw [stR_ok he]
    split
    · exact Nat.zero_le _
    · show (l'.take n).length ≤ _
      rw [List.length_take]; omega
/-- A packet's three cells. -/
theorem pk3 {W w : World} {A : Assn} {q : Nat} {a b c : Value} {T : Nat} (h : Sat W w (sep (blk q (.cells #[a, b, c] T (0, 0))) A)) :
    w.cell? ⟨q, 0, none⟩ = some a ∧ w.cell? ⟨q, 1, none⟩ = some b ∧ w.cell? ⟨q, 2, none⟩ = some c ∧ w.frozen? ⟨q, 0, none⟩ = false ∧ w.frozen? ⟨q, 1, none⟩ = false ∧ w.frozen? ⟨q, 2, none⟩ = false :=
  ⟨h.cell 0, h.cell 1, h.cell 2, h.unfrozen 0, h.unfrozen 1, h.unfrozen 2⟩
theorem pk3_set {W w : World} {A : Assn} {q : Nat} {a b c : Value} {T : Nat} (h : Sat W w (sep (blk q (.cells #[a, b, c] T (0, 0))) A)) (x y z : Value) :
    Sat W (((w.setCell ⟨q, 0, none⟩ x).setCell ⟨q, 1, none⟩ y).setCell ⟨q, 2, none⟩ z) (sep (blk q (.cells #[x, y, z] T (0, 0))) A) := ((h.setCell 0 x).setCell 1 y).setCell 2 z
set_option maxHeartbeats 2000000 in
theorem decode_head {W w : World} {A : Assn} {I : Mem} (v : Value) (l : List UInt8) (h : Sat W w (sep (kn I) A)) (hv : rBytes.rel I [v] l) (hl : l.length ≤ 1000200) (hd : decHead l ≠ 0) :
    Calls Try.prog 32 #[v] w fun e w' => e = .returned (.tuple #[.agg #[.int .i64 0, .int .i64 0, .slice none 0 0], .int .i64 (decHead l)]) ∧ Sat W w' (sep (kn I) A) := by
  have HV := Lib.hid hv
  have HL := Lib.hid hl
  have HD := Lib.hid hd
  obtain ⟨q, hq⟩ : ∃ q, q = w.heap.size := ⟨_, rfl⟩
  have h1 := h.alloc (.cells #[.int .i64 0, .int .i64 0, .slice none 0 0] 44)
  obtain ⟨w1, hw1⟩ : ∃ w1, w1 = w.alloc (.cells #[.int .i64 0, .int .i64 0, .slice none 0 0] 44) := ⟨_, rfl⟩
  rw [← hw1, ← hq] at h1
  have HQ := Lib.hid hq
  have HW1 := Lib.hid hw1
  clear hv hl hd hq hw1 h
  go_enter Try.func32, Try.ntmps32
  go_upto_region 1 with (fail)
  rw [← HQ.out, ← HW1.out]
  have h2 : Sat W w1 (sep (rBytes.is [v] l) (sep (kn I) (sep (blk q (.cells #[.int .i64 0, .int .i64 0, .slice none 0 0] 44 (0, 0))) A))) := h1.p1.tell HV.out
  go_wp2_with fail
  refine (read_spec v l h2 (by have := HL.out; omega)).mono ?_
  rintro e w2 ⟨p1, rfl, hS2⟩
  clear h1 h2
  go_wp2_with fail
  refine (rdraw_spec p1 _ hS2 (by have := HL.out; show l.length ≤ _; omega)).mono ?_
  rintro e w3 ⟨vc, rfl, hS3⟩
  obtain ⟨cb, hcb⟩ : ∃ cb, cb = (stR (.ok l)).1 := ⟨_, rfl⟩
  obtain ⟨s1, hs1⟩ : ∃ s1, s1 = (stR (.ok l)).2 := ⟨_, rfl⟩
  have hsm1 : RSt.small s1 := by rw [hs1]; exact stR_small (by have := HL.out; show l.length ≤ _; omega)
  have hcl : cb.length ≤ 1000200 := by rw [hcb]; exact Nat.le_trans (stR_le l) HL.out
  rw [← hcb, ← hs1] at hS3
  have h3 : Sat W w3 (sep (rBytes.is [vc] cb) (sep (kn I) (sep (isRd 101 p1 s1) (sep (blk q (.cells #[.int .i64 0, .int .i64 0, .slice none 0 0] 44 (0, 0))) A)))) := by
    have := hS3.p2.drop
    simpa only [sep_comm, sep_lcomm, sep_assoc] using this
  obtain ⟨J, hle, hbc, hS4⟩ := h3.learn
  have h4 : Sat W w3 (sep (isRd 101 p1 s1) (sep (kn J) (sep (blk q (.cells #[.int .i64 0, .int .i64 0, .slice none 0 0] 44 (0, 0))) A))) := hS4.p1
  have HBC := Lib.hid hbc
  have HLE := Lib.hid hle
  have HSM := Lib.hid hsm1
  have HCB := Lib.hid hcb
  have HS1 := Lib.hid hs1
  have HCL := Lib.hid hcl
  clear hS2 hS3 h3 hS4 hbc hle hsm1 hcb hs1 hcl
  go_wp2_with fail
  refine (rduint_spec p1 s1 h4 HSM.out).mono ?_
  rintro e w4 ⟨rfl, hS5⟩
  have HSM2 := Lib.hid (stU_small HSM.out)
  obtain ⟨z, hz⟩ : ∃ z, z = (stU s1).1 := ⟨_, rfl⟩
  obtain ⟨s2, hs2⟩ : ∃ s2, s2 = (stU s1).2 := ⟨_, rfl⟩
  rw [← hs2] at HSM2 hS5
  rw [← hz]
  have HZ := Lib.hid hz
  have HS2 := Lib.hid hs2
  clear h4 hz hs2
  go_wp2_with fail
  refine (rdend_spec p1 s2 hS5 HSM2.out).mono ?_
  rintro e w5 ⟨rfl, hS6⟩
  obtain ⟨ee, hee⟩ : ∃ ee, ee = stE s2 := ⟨_, rfl⟩
  rw [← hee]
  have HEE := Lib.hid hee
  have hdh : decHead l = if ee ≠ 0 then 2 else if z ≠ bytesN parcel cb then 11 else 0 := by
    rw [decHead, ← HS1.out, ← HS2.out, ← HEE.out, ← HZ.out, ← HCB.out]
  have HDH := Lib.hid hdh
  have h6 : Sat W w5 (sep (blk q (.cells #[.int .i64 0, .int .i64 0, .slice none 0 0] 44 (0, 0))) (sep (kn J) A)) := by
    have := hS6.drop
    simpa only [sep_comm, sep_lcomm, sep_assoc] using this
  clear hS5 hS6 hee hdh
  by_cases he : ee = 0
  · subst he
    have hzne : z ≠ bytesN parcel cb := by
      intro e
      have := HDH.out
      rw [if_neg (by simp), if_neg (by simpa using e)] at this
      exact HD.out this
    have hdl : decHead l = 11 := by rw [HDH.out, if_neg (by simp), if_pos hzne]
    have HDL := Lib.hid hdl
    obtain ⟨hs, hhs⟩ : ∃ hs, hs = bytesN parcel cb := ⟨_, rfl⟩
    rw [← hhs] at hzne
    have bz : ((z : Int) != (hs : Int)) = true := by simp; omega
    have HHS := Lib.hid hhs
    have hhy := Lib.hid (hbytes_any ⟨#[112, 97, 114, 99, 101, 108]⟩ vc cb h6.p1 HBC.out (by decide) (by have := HCL.out; omega))
    have hhs2 : bytesN (ByteArray.mk #[112, 97, 114, 99, 101, 108]).data.toList cb = hs := by rw [hhs]; rfl
    rw [hhs2] at hhy
    clear hzne hdl hhs hhs2
    go_wp2_with fail
    refine hhy.out.mono ?_
    rintro e w6 ⟨rfl, hS7⟩
    obtain ⟨c0, c1, c2, f0, f1, f2⟩ := pk3 hS7.p1
    have h8 := pk3_set hS7.p1 (.int .i64 0) (.int .i64 0) (.slice none 0 0)
    obtain ⟨w7, hw7⟩ : ∃ w7, w7 = ((w6.setCell ⟨q, 0, none⟩ (.int .i64 0)).setCell ⟨q, 1, none⟩ (.int .i64 0)).setCell ⟨q, 2, none⟩ (.slice none 0 0) := ⟨_, rfl⟩
    rw [← hw7] at h8
    obtain ⟨d0, d1, d2, -, -, -⟩ := pk3 h8
    have h9 := h8.drop.kn_mono HLE.out
    have HW7 := Lib.hid hw7
    clear hS7 hw7 h8 h6 hhy
    go_wp2_with fail
    rw [← HW7.out]
    exact bodyPost_ret (v := .tuple #[.agg #[.int .i64 0, .int .i64 0, .slice none 0 0], .int .i64 11]) (by simp [results, Try.results32, go_sem, d0, d1, d2]) rfl ⟨by rw [HDL.out], h9⟩
  · have b1 : (ee != 0) = true := by simp; omega
    have hdl : decHead l = 2 := by rw [HDH.out, if_pos he]
    have HDL := Lib.hid hdl
    obtain ⟨c0, c1, c2, f0, f1, f2⟩ := pk3 h6
    have h8 := pk3_set h6 (.int .i64 0) (.int .i64 0) (.slice none 0 0)
    obtain ⟨w7, hw7⟩ : ∃ w7, w7 = ((w5.setCell ⟨q, 0, none⟩ (.int .i64 0)).setCell ⟨q, 1, none⟩ (.int .i64 0)).setCell ⟨q, 2, none⟩ (.slice none 0 0) := ⟨_, rfl⟩
    rw [← hw7] at h8
    obtain ⟨d0, d1, d2, -, -, -⟩ := pk3 h8
    have h9 := h8.drop.kn_mono HLE.out
    have HW7 := Lib.hid hw7
    clear he hdl hw7 h8 h6
    go_wp2_with fail
    rw [← HW7.out]
    exact bodyPost_ret (v := .tuple #[.agg #[.int .i64 0, .int .i64 0, .slice none 0 0], .int .i64 2]) (by simp [results, Try.results32, go_sem, d0, d1, d2]) rfl ⟨by rw [HDL.out], h9⟩
set_option maxHeartbeats 2000000 in
theorem decode_body {W w : World} {A : Assn} {I : Mem} (v : Value) (l : List UInt8) (h : Sat W w (sep (kn I) A)) (hv : rBytes.rel I [v] l) (hl : l.length ≤ 1000200) (hd : decHead l = 0) :
    Calls Try.prog 32 #[v] w fun e w' => ∃ vb, e = .returned (.tuple #[.agg #[.int .i64 (decP l).1.seq, .int .i64 (decP l).1.ack, vb], .int .i64 (decP l).2]) ∧ Sat W w' (sep (rBytes.is [vb] (decP l).1.b) (sep (kn I) A)) := by
  have HV := Lib.hid hv
  have HL := Lib.hid hl
  have HD := Lib.hid hd
  obtain ⟨q, hq⟩ : ∃ q, q = w.heap.size := ⟨_, rfl⟩
  have h1 := h.alloc (.cells #[.int .i64 0, .int .i64 0, .slice none 0 0] 44)
  obtain ⟨w1, hw1⟩ : ∃ w1, w1 = w.alloc (.cells #[.int .i64 0, .int .i64 0, .slice none 0 0] 44) := ⟨_, rfl⟩
  rw [← hw1, ← hq] at h1
  have HQ := Lib.hid hq
  have HW1 := Lib.hid hw1
  clear hv hl hd hq hw1 h
  go_enter Try.func32, Try.ntmps32
  go_upto_region 1 with (fail)
  rw [← HQ.out, ← HW1.out]
  have h2 : Sat W w1 (sep (rBytes.is [v] l) (sep (kn I) (sep (blk q (.cells #[.int .i64 0, .int .i64 0, .slice none 0 0] 44 (0, 0))) A))) := h1.p1.tell HV.out
  go_wp2_with fail
  refine (read_spec v l h2 (by have := HL.out; omega)).mono ?_
  rintro e w2 ⟨p1, rfl, hS2⟩
  clear h1 h2
  go_wp2_with fail
  refine (rdraw_spec p1 _ hS2 (by have := HL.out; show l.length ≤ _; omega)).mono ?_
  rintro e w3 ⟨vc, rfl, hS3⟩
  obtain ⟨cb, hcb⟩ : ∃ cb, cb = (stR (.ok l)).1 := ⟨_, rfl⟩
  obtain ⟨s1, hs1⟩ : ∃ s1, s1 = (stR (.ok l)).2 := ⟨_, rfl⟩
  have hsm1 : RSt.small s1 := by rw [hs1]; exact stR_small (by have := HL.out; show l.length ≤ _; omega)
  have hcl : cb.length ≤ 1000200 := by rw [hcb]; exact Nat.le_trans (stR_le l) HL.out
  rw [← hcb, ← hs1] at hS3
  have h3 : Sat W w3 (sep (rBytes.is [vc] cb) (sep (kn I) (sep (isRd 101 p1 s1) (sep (blk q (.cells #[.int .i64 0, .int .i64 0, .slice none 0 0] 44 (0, 0))) A)))) := by
    have := hS3.p2.drop
    simpa only [sep_comm, sep_lcomm, sep_assoc] using this
  obtain ⟨J, hle, hbc, hS4⟩ := h3.learn
  have h4 : Sat W w3 (sep (isRd 101 p1 s1) (sep (kn J) (sep (blk q (.cells #[.int .i64 0, .int .i64 0, .slice none 0 0] 44 (0, 0))) A))) := hS4.p1
  have HBC := Lib.hid hbc
  have HLE := Lib.hid hle
  have HSM := Lib.hid hsm1
  have HCB := Lib.hid hcb
  have HS1 := Lib.hid hs1
  have HCL := Lib.hid hcl
  clear hS2 hS3 h3 hS4 hbc hle hsm1 hcb hs1 hcl
  go_wp2_with fail
  refine (rduint_spec p1 s1 h4 HSM.out).mono ?_
  rintro e w4 ⟨rfl, hS5⟩
  have HSM2 := Lib.hid (stU_small HSM.out)
  obtain ⟨z, hz⟩ : ∃ z, z = (stU s1).1 := ⟨_, rfl⟩
  obtain ⟨s2, hs2⟩ : ∃ s2, s2 = (stU s1).2 := ⟨_, rfl⟩
  rw [← hs2] at HSM2 hS5
  rw [← hz]
  have HZ := Lib.hid hz
  have HS2 := Lib.hid hs2
  clear h4 hz hs2
  go_wp2_with fail
  refine (rdend_spec p1 s2 hS5 HSM2.out).mono ?_
  rintro e w5 ⟨rfl, hS6⟩
  obtain ⟨ee, hee⟩ : ∃ ee, ee = stE s2 := ⟨_, rfl⟩
  rw [← hee]
  have HEE := Lib.hid hee
  have hdh : decHead l = if ee ≠ 0 then 2 else if z ≠ bytesN parcel cb then 11 else 0 := by
    rw [decHead, ← HS1.out, ← HS2.out, ← HEE.out, ← HZ.out, ← HCB.out]
  have HDH := Lib.hid hdh
  have h6 : Sat W w5 (sep (blk q (.cells #[.int .i64 0, .int .i64 0, .slice none 0 0] 44 (0, 0))) (sep (kn J) A)) := by
    have := hS6.drop
    simpa only [sep_comm, sep_lcomm, sep_assoc] using this
  clear hS5 hS6 hee hdh
  have he : ee = 0 := by
    by_cases he : ee = 0
    · exact he
    · have := HDH.out; rw [if_pos he, HD.out] at this; cases this
  have hze : z = bytesN parcel cb := by
    by_cases hz : z = bytesN parcel cb
    · exact hz
    · have := HDH.out; rw [if_neg (by simpa using he), if_pos hz, HD.out] at this; cases this
  have hdp : decP l = if decTail cb ≠ 0 then (noPkt, decTail cb) else (decPkt cb, 0) := by
    rw [decP, if_neg (by simpa using HD.out), ← HCB.out]
  have HDP := Lib.hid hdp
  subst he
  have hhy := Lib.hid (hbytes_any ⟨#[112, 97, 114, 99, 101, 108]⟩ vc cb h6.p1 HBC.out (by decide) (by have := HCL.out; omega))
  have hhs2 : bytesN (ByteArray.mk #[112, 97, 114, 99, 101, 108]).data.toList cb = z := by rw [hze]; rfl
  rw [hhs2] at hhy
  have bz : ((z : Int) != (z : Int)) = false := by simp
  clear hze hdp hhs2 h6
  go_wp2_with fail
  refine hhy.out.mono ?_
  rintro e w6 ⟨rfl, hS7⟩
  have h7 : Sat W w6 (sep (rBytes.is [vc] cb) (sep (kn J) (sep (blk q (.cells #[.int .i64 0, .int .i64 0, .slice none 0 0] 44 (0, 0))) A))) := hS7.tell HBC.out
  clear hS7 hhy
  go_wp2_with fail
  refine (read_spec vc cb h7 (by have := HCL.out; omega)).mono ?_
  rintro e w7 ⟨p2, rfl, hS8⟩
  have h8 : Sat W w7 (sep (isRd 101 p2 (.ok cb)) (sep (kn J) (sep (blk q (.cells #[.int .i64 0, .int .i64 0, .slice none 0 0] 44 (0, 0))) A))) := hS8.p1.tail
  have HSC : RSt.small (.ok cb) := by show cb.length ≤ _; have := HCL.out; omega
  have HSC' := Lib.hid HSC
  clear h7 hS8 HSC
  go_wp2_with fail
  refine (rdint_spec p2 _ h8 HSC'.out).mono ?_
  rintro e w8 ⟨rfl, hS9⟩
  obtain ⟨seq, hseq⟩ : ∃ seq, seq = (stI (.ok cb)).1 := ⟨_, rfl⟩
  obtain ⟨t1, ht1⟩ : ∃ t1, t1 = (stI (.ok cb)).2 := ⟨_, rfl⟩
  have hst1 : RSt.small t1 := by rw [ht1]; exact stU_small HSC'.out
  rw [← ht1] at hS9
  rw [← hseq]
  obtain ⟨q7, hq7⟩ : ∃ q7, q7 = w8.heap.size := ⟨_, rfl⟩
  have h9 := hS9.alloc (.cells #[.int .i64 seq, .int .i64 0, .slice none 0 0] 44)
  rw [← hq7] at h9
  obtain ⟨w9, hw9⟩ : ∃ w9, w9 = w8.alloc (.cells #[.int .i64 seq, .int .i64 0, .slice none 0 0] 44) := ⟨_, rfl⟩
  rw [← hw9] at h9
  have HSEQ := Lib.hid hseq
  have HT1 := Lib.hid ht1
  have HST1 := Lib.hid hst1
  have HQ7 := Lib.hid hq7
  have HW9 := Lib.hid hw9
  clear h8 hS9 hseq ht1 hst1 hq7 hw9
  go_upto_region 10 with (fail)
  rw [← HQ7.out, ← HW9.out]
  go_wp2_with fail
  refine (rdint_spec p2 _ h9.p1 HST1.out).mono ?_
  rintro e w10 ⟨rfl, hS10⟩
  obtain ⟨ack, hack⟩ : ∃ ack, ack = (stI t1).1 := ⟨_, rfl⟩
  obtain ⟨t2, ht2⟩ : ∃ t2, t2 = (stI t1).2 := ⟨_, rfl⟩
  have hst2 : RSt.small t2 := by rw [ht2]; exact stU_small HST1.out
  rw [← ht2] at hS10
  rw [← hack]
  obtain ⟨e0, e1, e2, g0, g1, g2⟩ := pk3 hS10.p1
  have h11 : Sat W (w10.setCell ⟨q7, 1, none⟩ (.int .i64 ack)) (sep (blk q7 (.cells #[.int .i64 seq, .int .i64 ack, .slice none 0 0] 44 (0, 0))) (sep (isRd 101 p2 t2) (sep (kn J) (sep (blk q (.cells #[.int .i64 0, .int .i64 0, .slice none 0 0] 44 (0, 0))) A)))) := hS10.p1.setCell 1 _
  have HACK := Lib.hid hack
  have HT2 := Lib.hid ht2
  have HST2 := Lib.hid hst2
  clear h9 hS10 hack ht2 hst2
  go_wp2_with fail
  refine (rdraw_spec p2 _ h11.p1 HST2.out).mono ?_
  rintro e w12 ⟨vb, rfl, hS12⟩
  obtain ⟨b, hb⟩ : ∃ b, b = (stR t2).1 := ⟨_, rfl⟩
  obtain ⟨t3, ht3⟩ : ∃ t3, t3 = (stR t2).2 := ⟨_, rfl⟩
  have hst3 : RSt.small t3 := by rw [ht3]; exact stR_small HST2.out
  rw [← ht3, ← hb] at hS12
  have h12 : Sat W w12 (sep (rBytes.is [vb] b) (sep (kn J) (sep (isRd 101 p2 t3) (sep (blk q7 (.cells #[.int .i64 seq, .int .i64 ack, .slice none 0 0] 44 (0, 0))) (sep (blk q (.cells #[.int .i64 0, .int .i64 0, .slice none 0 0] 44 (0, 0))) A))))) := by
    simpa only [sep_comm, sep_lcomm, sep_assoc] using hS12
  obtain ⟨K, hle2, hbb, hS13⟩ := h12.learn
  obtain ⟨ab, cb', rfl, hsb, -⟩ := bytes_rel.1 hbb
  obtain ⟨e0', e1', e2', g0', g1', g2'⟩ := pk3 hS13.p2
  have h13 : Sat W (w12.setCell ⟨q7, 2, none⟩ (.slice ab b.length cb')) (sep (blk q7 (.cells #[.int .i64 seq, .int .i64 ack, .slice ab b.length cb'] 44 (0, 0))) (sep (isRd 101 p2 t3) (sep (kn K) (sep (blk q (.cells #[.int .i64 0, .int .i64 0, .slice none 0 0] 44 (0, 0))) A)))) := by
    have : Sat W (w12.setCell ⟨q7, 2, none⟩ (.slice ab b.length cb')) (sep (blk q7 (.cells #[.int .i64 seq, .int .i64 ack, .slice ab b.length cb'] 44 (0, 0))) _) := hS13.p2.setCell 2 _
    simpa only [sep_comm, sep_lcomm, sep_assoc] using this
  have HB := Lib.hid hb
  have HT3 := Lib.hid ht3
  have HST3 := Lib.hid hst3
  have HLE2 := Lib.hid hle2
  have HBB := Lib.hid hbb
  have HSB := Lib.hid hsb
  clear h11 hS12 h12 hS13 hb ht3 hst3 hle2 hbb hsb e0 e1 e2 g0 g1 g2
  go_wp2_with fail
  refine (rdend_spec p2 _ h13.p1 HST3.out).mono ?_
  rintro e w14 ⟨rfl, hS14⟩
  obtain ⟨ee, hee⟩ : ∃ ee, ee = stE t3 := ⟨_, rfl⟩
  rw [← hee]
  have h14 : Sat W w14 (sep (blk q7 (.cells #[.int .i64 seq, .int .i64 ack, .slice ab b.length cb'] 44 (0, 0))) (sep (kn K) (sep (blk q (.cells #[.int .i64 0, .int .i64 0, .slice none 0 0] 44 (0, 0))) A))) := by
    have := hS14.drop
    simpa only [sep_comm, sep_lcomm, sep_assoc] using this
  obtain ⟨e0, e1, e2, -, -, -⟩ := pk3 h14
  have hpk : decPkt cb = ⟨seq, ack, b⟩ := by rw [decPkt, ← HSEQ.out, ← HT1.out, ← HACK.out, ← HT2.out, ← HB.out]
  have hdt : decTail cb = if ee ≠ 0 ∨ validB seq ack b.length = false then 2 else 0 := by
    rw [decTail, hpk, ← HT1.out, ← HT2.out, ← HT3.out, ← hee]; rfl
  have HPK := Lib.hid hpk
  have HDT := Lib.hid hdt
  have hvs := fun w0 (A0 : Assn) (h0 : Sat W w0 A0) => valid_spec seq ack ab b.length cb' h0 (Nat.le_trans HSB.out.1 HSB.out.2.1)
  have HVS := Lib.hid hvs
  obtain ⟨nb, hnb⟩ : ∃ nb, nb = b.length := ⟨_, rfl⟩
  rw [← hnb] at e2
  rw [← hnb]
  have HNB := Lib.hid hnb
  rw [← hnb] at h14 HVS HDT
  have HLL := Lib.hid (Mem.le_trans HLE.out HLE2.out)
  have bad : ∀ wz, Sat W wz (sep (blk q7 (.cells #[.int .i64 seq, .int .i64 ack, .slice ab nb cb'] 44 (0, 0))) (sep (kn K) (sep (blk q (.cells #[.int .i64 0, .int .i64 0, .slice none 0 0] 44 (0, 0))) A))) → decTail cb = 2 →
      (wz.cell? ⟨q, 0, none⟩ = some (.int .i64 0) ∧ wz.cell? ⟨q, 1, none⟩ = some (.int .i64 0) ∧ wz.cell? ⟨q, 2, none⟩ = some (.slice none 0 0) ∧ wz.frozen? ⟨q, 0, none⟩ = false ∧ wz.frozen? ⟨q, 1, none⟩ = false ∧ wz.frozen? ⟨q, 2, none⟩ = false) ∧
      ∃ w7, w7 = (((wz.setCell ⟨q, 0, none⟩ (.int .i64 0)).setCell ⟨q, 1, none⟩ (.int .i64 0)).setCell ⟨q, 2, none⟩ (.slice none 0 0)) ∧ w7.cell? ⟨q, 0, none⟩ = some (.int .i64 0) ∧ w7.cell? ⟨q, 1, none⟩ = some (.int .i64 0) ∧ w7.cell? ⟨q, 2, none⟩ = some (.slice none 0 0) ∧ Sat W w7 (sep (kn I) A) ∧ (decP l).1 = noPkt ∧ (decP l).2 = 2 := by
    intro wz hz h2
    have h8 := pk3_set hz.p2 (.int .i64 0) (.int .i64 0) (.slice none 0 0)
    obtain ⟨d0, d1, d2, -, -, -⟩ := pk3 h8
    refine ⟨pk3 hz.p2, _, rfl, d0, d1, d2, (h8.drop.drop.kn_mono HLL.out), ?_, ?_⟩
    · rw [HDP.out, if_pos (by rw [h2]; decide)]
    · rw [HDP.out, if_pos (by rw [h2]; decide)]; exact h2
  have HBAD := Lib.hid bad
  clear h13 hS14 hee hpk hdt hvs hnb bad e0' e1' e2' g0' g1' g2'
  by_cases he : ee = 0
  · subst he
    cases hval : validB seq ack nb with
    | false =>
      have hdt2 : decTail cb = 2 := by rw [HDT.out, if_pos (.inr hval)]
      have hv2 := HVS.out w14 _ h14
      rw [hval] at hv2
      have HV2 := Lib.hid hv2
      have HDT2 := Lib.hid hdt2
      clear hv2 hdt2 hval h14
      go_wp2_with fail
      refine HV2.out.mono ?_
      rintro e w15 ⟨rfl, h15⟩
      obtain ⟨⟨c0, c1, c2, f0, f1, f2⟩, w7, hw7, d0, d1, d2, h9, hp1, hp2⟩ := HBAD.out w15 h15 HDT2.out
      have HW7 := Lib.hid hw7
      have HP1 := Lib.hid hp1
      have HP2 := Lib.hid hp2
      clear hw7 hp1 hp2 h15 e0 e1 e2
      go_wp2_with fail
      rw [← HW7.out]
      rw [HP1.out, HP2.out]
      exact bodyPost_ret (v := .tuple #[.agg #[.int .i64 0, .int .i64 0, .slice none 0 0], .int .i64 2]) (by simp [results, Try.results32, go_sem, d0, d1, d2]) rfl ⟨_, rfl, h9.bytes_nil⟩
    | true =>
      have hdt2 : decTail cb = 0 := by rw [HDT.out, if_neg (by rw [hval]; simp)]
      have hv2 := HVS.out w14 _ h14
      rw [hval] at hv2
      have HV2 := Lib.hid hv2
      have HDT2 := Lib.hid hdt2
      clear hv2 hdt2 hval h14
      go_wp2_with fail
      refine HV2.out.mono ?_
      rintro e w15 ⟨rfl, h15⟩
      clear e0 e1 e2
      obtain ⟨e0, e1, e2, -, -, -⟩ := pk3 h15
      obtain ⟨c0, c1, c2, f0, f1, f2⟩ := pk3 h15.p2
      have h16 := pk3_set h15.p2 (.int .i64 seq) (.int .i64 ack) (.slice ab nb cb')
      obtain ⟨w7, hw7⟩ : ∃ w7, w7 = (((w15.setCell ⟨q, 0, none⟩ (.int .i64 seq)).setCell ⟨q, 1, none⟩ (.int .i64 ack)).setCell ⟨q, 2, none⟩ (.slice ab nb cb')) := ⟨_, rfl⟩
      rw [← hw7] at h16
      obtain ⟨d0, d1, d2, -, -, -⟩ := pk3 h16
      have h17 : Sat W w7 (sep (rBytes.is [.slice ab nb cb'] b) (sep (kn I) A)) := by
        have h18 : Sat W w7 (sep (rBytes.is [.slice ab b.length cb'] b) (sep (kn K) A)) := h16.drop.drop.tell HBB.out
        rw [← HNB.out] at h18
        exact (h18.p1.kn_mono HLL.out).p1
      have HW7 := Lib.hid hw7
      have hdp2 : decP l = (⟨seq, ack, b⟩, 0) := by rw [HDP.out, if_neg (by rw [HDT2.out]; simp), HPK.out]
      have HDP2 := Lib.hid hdp2
      clear hw7 h15 h16 hdp2
      go_wp2_with fail
      rw [← HW7.out, HDP2.out]
      exact bodyPost_ret (v := .tuple #[.agg #[.int .i64 seq, .int .i64 ack, .slice ab nb cb'], .int .i64 0]) (by simp [results, Try.results32, go_sem, d0, d1, d2]) rfl ⟨_, rfl, h17⟩
  · have b1 : (ee != 0) = true := by simp; omega
    have hdt2 : decTail cb = 2 := by rw [HDT.out, if_pos (.inl he)]
    obtain ⟨⟨c0, c1, c2, f0, f1, f2⟩, w7, hw7, d0, d1, d2, h9, hp1, hp2⟩ := HBAD.out w14 h14 hdt2
    have HW7 := Lib.hid hw7
    have HP1 := Lib.hid hp1
    have HP2 := Lib.hid hp2
    clear he hdt2 hw7 hp1 hp2 h14
    go_wp2_with fail
    rw [← HW7.out]
    rw [HP1.out, HP2.out]
    exact bodyPost_ret (v := .tuple #[.agg #[.int .i64 0, .int .i64 0, .slice none 0 0], .int .i64 2]) (by simp [results, Try.results32, go_sem, d0, d1, d2]) rfl ⟨_, rfl, h9.bytes_nil⟩
theorem decode_spec {W w : World} {A : Assn} {I : Mem} (v : Value) (l : List UInt8) (h : Sat W w (sep (kn I) A)) (hv : rBytes.rel I [v] l) (hl : l.length ≤ 1000200) :
    Calls Try.prog 32 #[v] w fun e w' => ∃ vb, e = .returned (.tuple #[.agg #[.int .i64 (decP l).1.seq, .int .i64 (decP l).1.ack, vb], .int .i64 (decP l).2]) ∧ Sat W w' (sep (rBytes.is [vb] (decP l).1.b) (sep (kn I) A)) := by
  by_cases hd : decHead l = 0
  · exact decode_body v l h hv hl hd
  · have e : decP l = (noPkt, decHead l) := by rw [decP, if_pos (by simpa using hd)]
    rw [e]
    exact (decode_head v l h hv hl hd).mono fun e w' ⟨h1, h2⟩ => ⟨_, h1, h2.bytes_nil⟩
end Go.Proofs.Ytnmkdidhilekiaa
