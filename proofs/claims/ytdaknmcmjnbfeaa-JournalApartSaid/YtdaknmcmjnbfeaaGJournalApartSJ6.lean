/- The reference's first. -/
import Derived.Test.YtdaknmcmjnbfeaaGJournalApartSJ5
import Derived.Test.YtdaknmcmjnbfeaaGJournalApartSW9
namespace Go.Proofs.Ytdaknmcmjnbfeaa
open Go.RowKit PA
theorem isRd_flag {W w : World} {A : Assn} {T p : Nat} {st : RSt} (h : Sat W w (sep (isRd T p st) A)) : ∃ e, w.cell? ⟨p, 1, none⟩ = some (.int .i64 e) ∧ ((e == 0) = okS st) ∧ (e != 0) = !okS st := by
  cases st with
  | ok l => exact ⟨0, isRd_cell_ok h, rfl, rfl⟩
  | error e =>
    obtain ⟨c, he⟩ := isRd_cell_er h
    exact ⟨e, c, by simp [okS]; omega, by simp [okS]; omega⟩
def firstB (n : Int) (l : List UInt8) : Bool := decide (l.take (frameJ n (recJ l)).length = frameJ n (recJ l))
theorem sliceTo_rel {I : Mem} {v : Value} {l : List UInt8} (h : rBytes.rel I [v] l) : ∃ a c, v = .slice a l.length c ∧ Swf a l.length c := by
  obtain ⟨a, c, e, hw, -⟩ := bytes_rel.1 h
  exact ⟨a, c, e, hw⟩
set_option maxRecDepth 100000 in
set_option maxHeartbeats 4000000 in
theorem first_spec {W w : World} {A : Assn} {I : Mem} (n : Int) (v : Value) (l : List UInt8) (h : Sat W w (sep (kn I) A)) (hv : rBytes.rel I [v] l) (h1 : I64 n) (hl : l.length ≤ 1000000) :
    Calls Try.prog 43 #[.int .i64 n, v] w fun e w' => ∃ u t, e = .returned (.tuple #[u, .bool t]) ∧ t = firstB n l ∧ Sat W w' (sep (rBytes.is [u] (if t then recJ l else [])) (sep (kn I) A)) := by
  obtain ⟨av, cv, rfl, hsw, -⟩ := bytes_rel.1 hv
  obtain ⟨nl, hnl⟩ : ∃ nl, nl = l.length := ⟨_, rfl⟩
  have hlc : nl ≤ cv := by rw [hnl]; exact hsw.1
  have hcap : cv ≤ 9223372036854775807 := hsw.2.1
  rw [← hnl] at hv hl ⊢
  obtain ⟨p1, hp1⟩ : ∃ p1, p1 = w.heap.size := ⟨_, rfl⟩
  have h2 : Sat W (w.alloc (.cells #[.slice av nl cv, .int .i64 0] 106)) (sep (isRd 106 p1 (.ok l)) (sep (kn I) A)) := by
    rw [hp1]
    exact isRd_okmk hnl ((h.tell hv).alloc _)
  obtain ⟨w1, hw1⟩ : ∃ w1, w1 = w.alloc (.cells #[.slice av nl cv, .int .i64 0] 106) := ⟨_, rfl⟩
  rw [← hw1] at h2
  have HNL := Lib.hid hnl
  have HV := Lib.hid hv
  have H1 := Lib.hid h1
  have HP1 := Lib.hid hp1
  have HW1 := Lib.hid hw1
  clear hnl hv h1 hp1 hw1 h hsw
  go_enter Try.func43, Try.ntmps43
  go_upto_region 2 with (fail)
  rw [← HW1.out, ← HP1.out]
  go_wp2_with fail
  refine (rrraw_spec p1 _ h2 (by have := HNL.out; show l.length ≤ _; omega)).mono ?_
  rintro e w2 ⟨vc, rfl, h3⟩
  obtain ⟨cb, hcb⟩ : ∃ cb, cb = (stR (.ok l)).1 := ⟨_, rfl⟩
  obtain ⟨s1, hs1⟩ : ∃ s1, s1 = (stR (.ok l)).2 := ⟨_, rfl⟩
  have hcl : cb.length ≤ 1000000 := by rw [hcb]; have := stU_le l; have := HNL.out; omega
  rw [← hcb, ← hs1] at h3
  obtain ⟨J, hle, hbc, h4⟩ := (show Sat W w2 (sep (rBytes.is [vc] cb) (sep (kn I) (sep (isRd 106 p1 s1) A))) by simpa only [sep_comm, sep_lcomm, sep_assoc] using h3).learn
  obtain ⟨ac, cc, rfl, -⟩ := sliceTo_rel hbc
  obtain ⟨nc, hnc⟩ : ∃ nc, nc = cb.length := ⟨_, rfl⟩
  rw [← hnc] at hbc hcl ⊢
  obtain ⟨p2, hp2⟩ : ∃ p2, p2 = w2.heap.size := ⟨_, rfl⟩
  have h5 : Sat W (w2.alloc (.cells #[.slice ac nc cc, .int .i64 0] 106)) (sep (isRd 106 p2 (.ok cb)) (sep (kn J) (sep (isRd 106 p1 s1) A))) := by
    rw [hp2]
    exact isRd_okmk hnc ((h4.tell hbc).alloc _)
  obtain ⟨w3, hw3⟩ : ∃ w3, w3 = w2.alloc (.cells #[.slice ac nc cc, .int .i64 0] 106) := ⟨_, rfl⟩
  rw [← hw3] at h5
  have HLE := Lib.hid hle
  have HNC := Lib.hid hnc
  have HCB := Lib.hid hcb
  have HS1 := Lib.hid hs1
  have HP2 := Lib.hid hp2
  have HW3 := Lib.hid hw3
  clear h2 h3 h4 hle hnc hcb hs1 hp2 hw3 hbc
  go_upto_region 4 with (fail)
  rw [← HW3.out, ← HP2.out]
  go_wp2_with fail
  refine (rrint_spec p2 _ h5 (by have := HNC.out; show cb.length ≤ _; omega)).mono ?_
  rintro e w4 ⟨rfl, h6⟩
  have hsm : RSt.small (stI (.ok cb)).2 := stU_small (by have := HNC.out; show cb.length ≤ _; omega)
  clear h5
  go_wp2_with fail
  refine (rrraw_spec p2 _ h6 hsm).mono ?_
  rintro e w5 ⟨vx, rfl, h7⟩
  have e1 : (stR (stI (.ok cb)).2) = refX l := by rw [HCB.out]; rfl
  rw [e1] at h7
  obtain ⟨x, hx⟩ : ∃ x, x = (refX l).1 := ⟨_, rfl⟩
  obtain ⟨s3, hs3⟩ : ∃ s3, s3 = (refX l).2 := ⟨_, rfl⟩
  have hxl : x.length ≤ 1000000 := by
    rw [hx, refX]
    refine stR_max _ _ fun r hr => ?_
    have e2 : (stI (.ok (stR (.ok l)).1)).2 = (stU (.ok (stR (.ok l)).1)).2 := rfl
    rw [e2, ← HCB.out] at hr
    have := stU_rest cb r _ (Prod.ext rfl hr)
    have := HNC.out
    omega
  rw [← hx, ← hs3] at h7
  obtain ⟨ee, ce, ee0, ee1⟩ := isRd_flag h7.p1
  obtain ⟨e9, ce9, ee90, ee91⟩ := isRd_flag h7.p3
  obtain ⟨K, hle2, hbx, h8⟩ := (show Sat W w5 (sep (rBytes.is [vx] x) (sep (kn J) (sep (isRd 106 p2 s3) (sep (isRd 106 p1 s1) A)))) by simpa only [sep_comm, sep_lcomm, sep_assoc] using h7).learn
  have h9 : Sat W w5 (sep (kn K) A) := h8.p2.drop.p1.drop
  have HX := Lib.hid hx
  have HS3 := Lib.hid hs3
  have HB := Lib.hid hbx
  have HLE2 := Lib.hid hle2
  clear h6 h7 h8 hsm e1 hx hs3 hbx hle2 ee0 ee90
  have hlI : l.length < 18446744073709551616 := by have := HNL.out; omega
  have hboth := both (n := n) (l := l) H1.out.1 H1.out.2 hlI
  rw [← HX.out, ← HS1.out, ← HS3.out] at hboth
  have HBO := Lib.hid hboth
  clear hboth hlI
  have fin : firstB n l = false → Sat W w5 (sep (kn K) A) → Sat W w5 (sep (rBytes.is [.slice none 0 0] (if false then recJ l else [])) (sep (kn I) A)) := fun _ h => (h.kn_mono (Mem.le_trans HLE.out HLE2.out)).bytes_nil
  cases hk1 : okS s1 with
  | false =>
    rw [hk1] at ee91
    have hno : firstB n l = false := by
      rw [firstB, decide_eq_false_iff_not, ← HBO.out]
      rintro ⟨h, -⟩; rw [hk1] at h; cases h
    have b1 : (e9 != 0) = true := ee91
    have b2 : (e9 == 0) = false := by simp [bne] at b1; simp [b1]
    clear ee91 ee1 hk1
    go_wp2_with fail
    go_ret2
    exact ⟨_, _, rfl, hno.symm, fin hno h9⟩
  | true =>
    rw [hk1] at ee91
    have b1 : (e9 != 0) = false := ee91
    obtain rfl : e9 = 0 := by simpa [bne] using b1
    cases hk3 : okS s3 with
    | false =>
      rw [hk3] at ee1
      have hno : firstB n l = false := by
        rw [firstB, decide_eq_false_iff_not, ← HBO.out]
        rintro ⟨-, h, -⟩; rw [hk3] at h; cases h
      have b2 : (ee != 0) = true := ee1
      clear ee91 ee1 hk1 hk3 b1
      go_wp2_with fail
      go_ret2
      exact ⟨_, _, rfl, hno.symm, fin hno h9⟩
    | true =>
      rw [hk3] at ee1
      have b2 : (ee != 0) = false := ee1
      obtain rfl : ee = 0 := by simpa [bne] using b2
      have hf0 := HBO.out
      simp only [hk1, hk3, true_and] at hf0
      have HF0 := Lib.hid hf0
      have HXL := Lib.hid hxl
      clear ee91 ee1 hk1 hk3 b1 b2 hf0 hxl
      go_wp2_with fail
      refine (rframe_spec n vx x h9 HB.out H1.out HXL.out).mono ?_
      rintro e w6 ⟨fa, fc, rfl, h10⟩
      obtain ⟨fr, hfr⟩ : ∃ fr, fr = frameJ n x := ⟨_, rfl⟩
      rw [← hfr] at h10 ⊢
      obtain ⟨-, h11⟩ := h10.bytes_of_osl
      obtain ⟨M, hM, hf, h12⟩ := h11.learn
      obtain ⟨fl, hfl⟩ : ∃ fl, fl = fr.length := ⟨_, rfl⟩
      have hswf : fl ≤ fc ∧ fc ≤ 9223372036854775807 := by
        obtain ⟨a', c', e, hw, _⟩ := bytes_rel.1 hf
        cases e
        exact ⟨by rw [hfl]; exact hw.1, hw.2.1⟩
      rw [← hfl] at hf ⊢
      have HFR := Lib.hid hfr
      have HFL := Lib.hid hfl
      have HF := Lib.hid hf
      have HM := Lib.hid hM
      clear hfr hfl hf hM h9 h10 h11
      by_cases hgt : nl < fl
      · have hno : firstB n l = false := by
          rw [firstB, decide_eq_false_iff_not, ← HF0.out, ← HFR.out]
          intro h
          have := congrArg List.length h
          rw [List.length_take] at this
          have := HNL.out
          have := HFL.out
          omega
        have g1 : (nl : Int) < (fl : Int) := by omega
        clear hgt
        go_wp2_with fail
        go_ret2
        exact ⟨_, _, rfl, hno.symm, (h12.kn_mono (Mem.le_trans (Mem.le_trans HLE.out HLE2.out) HM.out)).bytes_nil⟩
      · have g1 : ¬ ((nl : Int) < (fl : Int)) := by omega
        have hkc : fl ≤ cv := by omega
        have hr := rel_take (k := fl) HNL.out (by omega) (rBytes.mono (Mem.le_trans (Mem.le_trans HLE.out HLE2.out) HM.out) HV.out)
        have h12a : Sat W w6 (sep (rBytes.is [.slice fa fl fc] fr) _) := h12.tell HF.out
        have h13 : Sat W w6 (sep (rBytes.is [.slice av fl cv] (l.take fl)) _) := h12a.p1.tell hr
        have h14 : Sat W w6 (sep (rBytes.is [.slice fa fl fc] fr) (sep (rBytes.is [.slice av fl cv] (l.take fl)) (sep (kn M) A))) := by simpa only [sep_comm, sep_lcomm, sep_assoc] using h13
        have HR := Lib.hid h14
        clear hgt hr h13 h14
        go_wp2_with fail
        refine (sameBytes_spec _ _ _ _ HR.out).mono ?_
        rintro e w7 ⟨rfl, h15⟩
        have h16 := h15.drop.drop
        have hdec : decide (fr = l.take fl) = firstB n l := by
          rw [firstB]
          refine decide_eq_decide.2 ?_
          rw [← HF0.out, ← HFR.out, ← HFL.out]
          exact ⟨fun e => e.symm, fun e => e.symm⟩
        rw [hdec]
        have hrec : firstB n l = true → x = recJ l := by
          intro h
          have h := of_decide_eq_true h
          have := ref_uniq H1.out.1 H1.out.2 (by have := HNL.out; omega) h
          rw [HX.out, this.1]
        obtain ⟨t, ht⟩ : ∃ t, t = firstB n l := ⟨_, rfl⟩
        rw [← ht] at hrec ⊢
        have HT := Lib.hid ht
        have HREC := Lib.hid hrec
        clear ht hrec HR h12 h12a h15 hdec
        cases t with
        | false =>
          go_wp2_with fail
          go_ret2
          exact ⟨_, _, rfl, HT.out, (h16.kn_mono (Mem.le_trans (Mem.le_trans HLE.out HLE2.out) HM.out)).bytes_nil⟩
        | true =>
          go_wp2_with fail
          go_ret2
          refine ⟨_, _, rfl, HT.out, ?_⟩
          rw [if_pos rfl, ← HREC.out trivial]
          have h16a : Sat W w7 (sep (rBytes.is [vx] x) _) := h16.tell (rBytes.mono HM.out HB.out)
          have h17 := h16a.p1.kn_mono (Mem.le_trans (Mem.le_trans HLE.out HLE2.out) HM.out)
          exact h17.p1
end Go.Proofs.Ytdaknmcmjnbfeaa
