/- The reference's first. -/
import Derived.Test.YtdaknmcmjnbfeaaGreatGJournalRunsSJ5
import Derived.Test.YtdaknmcmjnbfeaaGreatGJournalRunsSW9
namespace Go.Proofs.YtdaknmcmjnbfeaaGreat
open Go.RowKit PA
theorem isRd_flag {W w : World} {A : Assn} {T p : Nat} {st : RSt} (h : Sat W w (sep (isRd T p st) A)) : ∃ e, w.cell? ⟨p, 1, none⟩ = some (.int .i64 e) ∧ ((e == 0) = okS st) ∧ (e != 0) = !okS st := by
  cases st with
  | ok l => exact ⟨0, isRd_cell_ok h, rfl, rfl⟩
  | error e =>
    obtain ⟨c, he⟩ := isRd_cell_er h
    exact ⟨e, c, by simp [okS]; omega, by simp [okS]; omega⟩
def firstB (n : Int) (l : List UInt8) : Bool := decide (l.take (frameJ n (recJ l)).length = frameJ n (recJ l))
theorem sliceTo_rel {I : Mem} {v : Value} {l : List UInt8} (h : rBytes.rel I [v] l) : ∃ a c, v = .slice a l.length c ∧ Swf a l.length c := by
  obtain ⟨a, c, e, hw, -⟩ := bytes_rel.1 h
  exact ⟨a, c, e, hw⟩
set_option maxRecDepth 100000 in
set_option maxHeartbeats 4000000 in
theorem first_spec {W w : World} {A : Assn} {I : Mem} (n : Int) (v : Value) (l : List UInt8) (h : Sat W w (sep (kn I) A)) (hv : rBytes.rel I [v] l) (h1 : I64 n) (hl : l.length ≤ 1000000) :
    Calls Tryz.prog 46 #[.int .i64 n, v] w fun e w' => ∃ u t, e = .returned (.tuple #[u, .bool t]) ∧ t = firstB n l ∧ Sat W w' (sep (rBytes.is [u] (if t then recJ l else [])) (sep (kn I) A)) := by
  obtain ⟨av, cv, rfl, hsw, -⟩ := bytes_rel.1 hv
  obtain ⟨nl, hnl⟩ : ∃ nl, nl = l.length := ⟨_, rfl⟩
  have hlc : nl ≤ cv := by rw [hnl]; exact hsw.1
  have hcap : cv ≤ 9223372036854775807 := hsw.2.1
  rw [← hnl] at hv hl ⊢
  obtain ⟨p1, hp1⟩ : ∃ p1, p1 = w.heap.size := ⟨_, rfl⟩
  have h2 : Sat W (w.alloc (.cells #[.slice av nl cv, .int .i64 0] 100)) (sep (isRd 100 p1 (.ok l)) (sep (kn I) A)) := by
    rw [hp1]
    exact isRd_okmk hnl ((h.tell hv).alloc _)
  obtain ⟨w1, hw1⟩ : ∃ w1, w1 = w.alloc (.cells #[.slice av nl cv, .int .i64 0] 100) := ⟨_, rfl⟩
  rw [← hw1] at h2
  have HNL := Lib.hid hnl
  have HV := Lib.hid hv
  have H1 := Lib.hid h1
  have HP1 := Lib.hid hp1
  have HW1 := Lib.hid hw1
  clear hnl hv h1 hp1 hw1 h hsw
  go_enter Tryz.func46, Tryz.ntmps46
  go_upto_region 2 with (fail)
  rw [← HW1.out, ← HP1.out]
  go_wp2_with fail
  refine (rrraw_spec p1 _ h2 (by have := HNL.out; show l.length ≤ _; omega)).mono ?_
  rintro e w2 ⟨vc, rfl, h3⟩
  obtain ⟨cb, hcb⟩ : ∃ cb, cb = (stR (.ok l)).1 := ⟨_, rfl⟩
  obtain ⟨s1, hs1⟩ : ∃ s1, s1 = (stR (.ok l)).2 := ⟨_, rfl⟩
  have hcl : cb.length ≤ 1000000 := by rw [hcb]; have := stU_le l; have := HNL.out; omega
  rw [← hcb, ← hs1] at h3
  obtain ⟨J, hle, hbc, h4⟩ := (show Sat W w2 (sep (rBytes.is [vc] cb) (sep (kn I) (sep (isRd 100 p1 s1) A))) by simpa only [sep_comm, sep_lcomm, sep_assoc] using h3).learn
  obtain ⟨ac, cc, rfl, -⟩ := sliceTo_rel hbc
  obtain ⟨nc, hnc⟩ : ∃ nc, nc = cb.length := ⟨_, rfl⟩
  rw [← hnc] at hbc hcl ⊢
  obtain ⟨p2, hp2⟩ : ∃ p2, p2 = w2.heap.size := ⟨_, rfl⟩
  have h5 : Sat W (w2.alloc (.cells #[.slice ac nc cc, .int .i64 0] 100)) (sep (isRd 100 p2 (.ok cb)) (sep (kn J) (sep (isRd 100 p1 s1) A))) := by
    rw [hp2]
    exact isRd_okmk hnc ((h4.tell hbc).alloc _)
  obtain ⟨w3, hw3⟩ : ∃ w3, w3 = w2.alloc (.cells #[.slice ac nc cc, .int .i64 0] 100) := ⟨_, rfl⟩
  rw [← hw3] at h5
  have HLE := Lib.hid hle
  have HNC := Lib.hid hnc
  have HCB := Lib.hid hcb
  have HS1 := Lib.hid hs1
  have HP2 := Lib.hid hp2
  have HW3 := Lib.hid hw3
  clear h2 h3 h4 hle hnc hcb hs1 hp2 hw3 hbc
  go_upto_region 4 with (fail)
  rw [← HW3.out, ← HP2.out]
  go_wp2_with fail
  refine (rrint_spec p2 _ h5 (by have := HNC.out; show cb.length ≤ _; omega)).mono ?_
  rintro e w4 ⟨rfl, h6⟩
  have hsm : RSt.small (stI (.ok cb)).2 := stU_small (by have := HNC.out; show cb.length ≤ _; omega)
  clear h5
  go_wp2_with fail
  refine (rrraw_spec p2 _ h6 hsm).mono ?_
  rintro e w5 ⟨vx, rfl, h7⟩
  have e1 : (stR (stI (.ok cb)).2) = refX l := by rw [HCB.out]; rfl
  rw [e1] at h7
  obtain ⟨x, hx⟩ : ∃ x, x = (refX l).1 := ⟨_, rfl⟩
  obtain ⟨s3, hs3⟩ : ∃ s3, s3 = (refX l).2 := ⟨_, rfl⟩
  have hxl : x.length ≤ 1000000 := by
    rw [hx, refX]
    refine stR_max _ _ fun r hr => ?_
    have e2 : (stI (.ok (stR (.ok l)).1)).2 = (stU (.ok (stR (.ok l)).1)).2 := rfl
    rw [e2, ← HCB.out] at hr
    have := stU_rest cb r _ (Prod.ext rfl hr)
    have := HNC.out
    omega
  rw [← hx, ← hs3] at h7
  obtain ⟨ee, ce, ee0, ee1⟩ := isRd_flag h7.p1
  obtain ⟨e9, ce9, ee90, ee91⟩ := isRd_flag h7.p3
  obtain ⟨K, hle2, hbx, h8⟩ := (show Sat W w5 (sep (rBytes.is [vx] x) (sep (kn J) (sep (isRd 100 p2 s3) (sep (isRd 100 p1 s1) A)))) by simpa only [sep_comm, sep_lcomm, sep_assoc] using h7).learn
  have h9 : Sat W w5 (sep (kn K) A) := h8.p2.drop.p1.drop
  have HX := Lib.hid hx
  have HS3 := Lib.hid hs3
  have HB := Lib.hid hbx
  have HLE2 := Lib.hid hle2
  clear h6 h7 h8 hsm e1 hx hs3 hbx hle2 ee0 ee90
  have hlI : l.length < 18446744073709551616 := by have := HNL.out; omega
  have hboth := both (n := n) (l := l) H1.out.1 H1.out.2 hlI
  rw [← HX.out, ← HS1.out, ← HS3.out] at hboth
  have HBO := Lib.hid hboth
  clear hboth hlI
  have fin : firstB n l = false → Sat W w5 (sep (kn K) A) → Sat W w5 (sep (rBytes.is [.slice none 0 0] (if false then recJ l else [])) (sep (kn I) A)) := fun _ h => (h.kn_mono (Mem.le_trans HLE.out HLE2.out)).bytes_nil
  cases hk1 : okS s1 with
  | false =>
    rw [hk1] at ee91
    have hno : firstB n l = false := by
      rw [firstB, decide_eq_false_iff_not, ← HBO.out]
      rintro ⟨h, -⟩; rw [hk1] at h; cases h
    have b1 : (e9 != 0) = true := ee91
    have b2 : (e9 == 0) = false := by simp [bne] at b1; simp [b1]
    clear ee91 ee1 hk1
    go_wp2_with fail
    go_ret2
    exact ⟨_, _, rfl, hno.symm, fin hno h9⟩
  | true =>
    rw [hk1] at ee91
    have b1 : (e9 != 0) = false := ee91
    obtain rfl : e9 = 0 := by simpa [bne] using b1
    cases hk3 : okS s3 with
    | false =>
      rw [hk3] at ee1
      have hno : firstB n l = false := by
        rw [firstB, decide_eq_false_iff_not, ← HBO.out]
        rintro ⟨-, h, -⟩; rw [hk3] at h; cases h
      have b2 : (ee != 0) = true := ee1
      clear ee91 ee1 hk1 hk3 b1
      go_wp2_with fail
      go_ret2
      exact ⟨_, _, rfl, hno.symm, fin hno h9⟩
    | true =>
      rw [hk3] at ee1
      have b2 : (ee != 0) = false := ee1
      obtain rfl : ee = 0 := by simpa [bne] using b2
      have hf0 := HBO.out
      simp only [hk1, hk3, true_and] at hf0
      have HF0 := Lib.hid hf0
      have HXL := Lib.hid hxl
      clear ee91 ee1 hk1 hk3 b1 b2 hf0 hxl
      go_wp2_with fail
      refine (rframe_spec n vx x h9 HB.out H1.out HXL.out).mono ?_
      rintro e w6 ⟨fa, fc, rfl, h10⟩
      obtain ⟨fr, hfr⟩ : ∃ fr, fr = frameJ n x := ⟨_, rfl⟩
      rw [← hfr] at h10 ⊢
      obtain ⟨-, h11⟩ := h10.bytes_of_osl
      obtain ⟨M, hM, hf, h12⟩ := h11.learn
      obtain ⟨fl, hfl⟩ : ∃ fl, fl = fr.length := ⟨_, rfl⟩
      have hswf : fl ≤ fc ∧ fc ≤ 9223372036854775807 := by
        obtain ⟨a', c', e, hw, _⟩ := bytes_rel.1 hf
        cases e
        exact ⟨by rw [hfl]; exact hw.1, hw.2.1⟩
      rw [← hfl] at hf ⊢
      have HFR := Lib.hid hfr
      have HFL := Lib.hid hfl
      have HF := Lib.hid hf
      have HM := Lib.hid hM
      clear hfr hfl hf hM h9 h10 h11
      by_cases hgt : nl < fl
      · have hno : firstB n l = false := by
          rw [firstB, decide_eq_false_iff_not, ← HF0.out, ← HFR.out]
          intro h
          have := congrArg List.length h
          rw [List.length_take] at this
          have := HNL.out
          have := HFL.out
          omega
        have g1 : (nl : Int) < (fl : Int) := by omega
        clear hgt
        go_wp2_with fail
        go_ret2
        exact ⟨_, _, rfl, hno.symm, (h12.kn_mono (Mem.le_trans (Mem.le_trans HLE.out HLE2.out) HM.out)).bytes_nil⟩
      · have g1 : ¬ ((nl : Int) < (fl : Int)) := by omega
        have hkc : fl ≤ cv := by omega
        have hr := rel_take (k := fl) HNL.out (by omega) (rBytes.mono (Mem.le_trans (Mem.le_trans HLE.out HLE2.out) HM.out) HV.out)
        have h12a : Sat W w6 (sep (rBytes.is [.slice fa fl fc] fr) _) := h12.tell HF.out
        have h13 : Sat W w6 (sep (rBytes.is [.slice av fl cv] (l.take fl)) _) := h12a.p1.tell hr
        have h14 : Sat W w6 (sep (rBytes.is [.slice fa fl fc] fr) (sep (rBytes.is [.slice av fl cv] (l.take fl)) (sep (kn M) A))) := by simpa only [sep_comm, sep_lcomm, sep_assoc] using h13
        have HR := Lib.hid h14
        clear hgt hr h13 h14
        go_wp2_with fail
        refine (sameBytes_spec _ _ _ _ HR.out).mono ?_
        rintro e w7 ⟨rfl, h15⟩
        have h16 := h15.drop.drop
        have hdec : decide (fr = l.take fl) = firstB n l := by
          rw [firstB]
          refine decide_eq_decide.2 ?_
          rw [← HF0.out, ← HFR.out, ← HFL.out]
          exact ⟨fun e => e.symm, fun e => e.symm⟩
        rw [hdec]
        have hrec : firstB n l = true → x = recJ l := by
          intro h
          have h := of_decide_eq_true h
          have := ref_uniq H1.out.1 H1.out.2 (by have := HNL.out; omega) h
          rw [HX.out, this.1]
        obtain ⟨t, ht⟩ : ∃ t, t = firstB n l := ⟨_, rfl⟩
        rw [← ht] at hrec ⊢
        have HT := Lib.hid ht
        have HREC := Lib.hid hrec
        clear ht hrec HR h12 h12a h15 hdec
        cases t with
        | false =>
          go_wp2_with fail
          go_ret2
          exact ⟨_, _, rfl, HT.out, (h16.kn_mono (Mem.le_trans (Mem.le_trans HLE.out HLE2.out) HM.out)).bytes_nil⟩
        | true =>
          go_wp2_with fail
          go_ret2
          refine ⟨_, _, rfl, HT.out, ?_⟩
          rw [if_pos rfl, ← HREC.out trivial]
          have h16a : Sat W w7 (sep (rBytes.is [vx] x) _) := h16.tell (rBytes.mono HM.out HB.out)
          have h17 := h16a.p1.kn_mono (Mem.le_trans (Mem.le_trans HLE.out HLE2.out) HM.out)
          exact h17.p1
end Go.Proofs.YtdaknmcmjnbfeaaGreat
/- The reference's Scan; SameLists. -/
namespace Go.Proofs.YtdaknmcmjnbfeaaGreat
open Go.RowKit PA
structure CameR (l : List UInt8) (xs : List (List UInt8)) (k : Nat) : Prop where
  recs : (scanJ 0 l).1 = xs ++ (scanJ xs.length (l.drop k)).1
  len : (scanJ 0 l).2 = k + (scanJ xs.length (l.drop k)).2
  le : k ≤ l.length
  num : xs.length ≤ k
theorem CameR.start (l : List UInt8) : CameR l [] 0 := ⟨by simp, by simp, Nat.zero_le _, Nat.le_refl _⟩
theorem CameR.none {l : List UInt8} {xs : List (List UInt8)} {k : Nat} (h : CameR l xs k) (hn : ¬ (l.drop k ≠ [] ∧ firstB xs.length (l.drop k) = true)) : xs = (scanJ 0 l).1 ∧ k = (scanJ 0 l).2 := by
  have := scanJ_no (i := xs.length) (l := l.drop k) (fun h => hn ⟨h.1, decide_eq_true h.2⟩)
  rw [h.recs, h.len, this]
  exact ⟨(List.append_nil _).symm, rfl⟩
theorem CameR.more {l : List UInt8} {xs : List (List UInt8)} {k : Nat} (h : CameR l xs k) (h0 : l.drop k ≠ []) (hn : firstB xs.length (l.drop k) = true) :
    CameR l (xs ++ [recJ (l.drop k)]) (k + (frameJ xs.length (recJ (l.drop k))).length) := by
  have hn := of_decide_eq_true hn
  have h1 := h.recs
  have h2 := h.len
  have hl := (frameJ_length xs.length (recJ (l.drop k))).1
  have ht := congrArg List.length hn
  rw [List.length_take, List.length_drop] at ht
  rw [scanJ_go ⟨h0, hn⟩] at h1 h2
  dsimp only at h1 h2
  rw [List.drop_drop] at h1 h2
  refine ⟨?_, ?_, ?_, ?_⟩
  · rw [h1, List.append_assoc, List.length_append]; rfl
  · rw [h2, List.length_append, Nat.add_assoc]; rfl
  · have := h.le; omega
  · rw [List.length_append, List.length_singleton]; have := h.num; omega
set_option maxRecDepth 100000 in
set_option maxHeartbeats 4000000 in
theorem rscan_spec {W w : World} {A : Assn} {I : Mem} (v : Value) (l : List UInt8) (h : Sat W w (sep (kn I) A)) (hv : rBytes.rel I [v] l) (hl : l.length ≤ 1000000) :
    Calls Tryz.prog 26 #[v] w fun e w' => ∃ u, e = .returned (.tuple #[u, .int .i64 ((scanJ 0 l).2 : Nat)]) ∧ Sat W w' (sep ((rBytes.slice 1).is [u] (scanJ 0 l).1) (sep (kn I) A)) := by
  obtain ⟨av, cv, rfl, hsw, -⟩ := bytes_rel.1 hv
  obtain ⟨nl, hnl⟩ : ∃ nl, nl = l.length := ⟨_, rfl⟩
  have hlc : nl ≤ cv := by rw [hnl]; exact hsw.1
  have hcap : cv ≤ 9223372036854775807 := hsw.2.1
  rw [← hnl] at hv hl ⊢
  have h0 : Sat W w (sep (osl 39 1 none 0 0 []) (sep ((rBytes.rows 1).is [] []) (sep (kn I) A))) :=
    (Sat.startPers W (fun I => (rBytes.rows 1).rel I [] []) (fun _ _ hl h => (rBytes.rows 1).mono hl h) h ⟨[], rfl, trivial⟩).osl_nil 39 1
  have HNL := Lib.hid hnl
  have HV := Lib.hid hv
  clear hnl hv h hsw
  go_enter Tryz.func26, Tryz.ntmps26
  go_wp2_with fail
  go_loopw [4, 5] (fun ov nv wr => ∃ (k : Nat) (xs : List (List UInt8)) (a : Option Addr) (c : Nat) (vs : List Value), ov = .slice a xs.length c ∧ nv = .int .i64 (k : Nat) ∧ CameR l xs k ∧ Sat W wr (sep (osl 39 1 a xs.length c vs) (sep ((rBytes.rows 1).is vs xs) (sep (kn I) A)))) (fun _ nv _ => nl - (intOf nv).toNat)
  case atStart => exact ⟨0, [], none, 0, [], rfl, rfl, CameR.start l, h0⟩
  case round =>
    clear h0
    obtain ⟨k, xs, a, c, vs, rfl, rfl, hcame, hS⟩ := hrel
    obtain ⟨i, hi⟩ : ∃ i, i = xs.length := ⟨_, rfl⟩
    have hik : i ≤ k := by rw [hi]; exact hcame.num
    have hkl : k ≤ nl := by rw [HNL.out]; exact hcame.le
    rw [← hi] at hS ⊢
    have HI := Lib.hid hi
    have HC := Lib.hid hcame
    clear hi hcame
    by_cases hlt : k < nl
    · have hltI : (k : Int) < nl := by omega
      obtain ⟨bb, oo, rfl⟩ : ∃ bb oo, av = some ⟨bb, oo, none⟩ := by
        obtain ⟨a', c', e, _, hcs⟩ := bytes_rel.1 HV.out
        cases e
        obtain ⟨b, o, e, _⟩ := cells_ext hcs (fun e => by have := congrArg List.length e; rw [List.length_map, List.length_nil, ← HNL.out] at this; omega)
        exact ⟨b, o, e⟩
      have hrel := rel_drop k HNL.out hkl HV.out
      obtain ⟨lk, hlk⟩ : ∃ lk, lk = l.drop k := ⟨_, rfl⟩
      rw [← hlk] at hrel
      have hlkl : lk.length ≤ 1000000 := by rw [hlk, List.length_drop, ← HNL.out]; omega
      have hne : l.drop k ≠ [] := fun e => by
        have := congrArg List.length e
        rw [List.length_drop, List.length_nil, ← HNL.out] at this
        omega
      have h2 := hS.p2
      have HR := Lib.hid hrel
      have HLK := Lib.hid hlk
      have HKL := Lib.hid hlkl
      have HNE := Lib.hid hne
      clear hrel hlk hlkl hS hne
      go_wp2_with fail
      refine (first_spec (i : Int) _ lk h2 HR.out ⟨by omega, by omega⟩ HKL.out).mono ?_
      rintro e w2 ⟨u, t, rfl, ht, h3⟩
      have HT := Lib.hid ht
      clear h2 ht
      cases t with
      | false =>
        go_wp2_with fail
        go_ret2
        obtain ⟨e1, e2⟩ := HC.out.none (by
          rintro ⟨-, h⟩
          rw [← HI.out, ← HLK.out, ← HT.out] at h
          cases h)
        refine ⟨.slice a i c, by rw [← e2]; rfl, ?_⟩
        have h9 := (show Sat W w2 (sep (osl 39 1 a i c vs) (sep ((rBytes.rows 1).is vs xs) (sep (kn I) A))) by
          have := h3.drop
          simpa only [sep_comm, sep_lcomm, sep_assoc] using this).slice_of_osl (R := rBytes) (k := 1) HI.out
        rw [e1] at h9
        exact h9
      | true =>
        rw [if_pos rfl] at h3
        obtain ⟨rk, hrk⟩ : ∃ rk, rk = recJ lk := ⟨_, rfl⟩
        rw [← hrk] at h3
        have hrkl : rk.length ≤ 1000000 := by rw [hrk]; have := recJ_length lk; have := HKL.out; omega
        obtain ⟨J, hJ, hx, h4⟩ := h3.learn
        obtain ⟨au, cu, rfl, -⟩ := sliceTo_rel hx
        have HRK := Lib.hid hrk
        have HX := Lib.hid hx
        have HJ := Lib.hid hJ
        obtain ⟨rl, hrl⟩ : ∃ rl, rl = rk.length := ⟨_, rfl⟩
        rw [← hrl] at HX ⊢
        have HRL := Lib.hid hrl
        clear h3 hrk hx hJ hrl
        go_wp2_with fail
        refine (rframe_spec (i : Int) _ rk h4 HX.out ⟨by omega, by omega⟩ hrkl).mono ?_
        rintro e w3 ⟨fa, fc, rfl, h5⟩
        obtain ⟨fl, hfl⟩ : ∃ fl, fl = (frameJ i rk).length := ⟨_, rfl⟩
        have hfl2 : fl ≤ 1000040 := by rw [hfl]; have := frameJ_le i rk (by omega) (by omega) (by omega); omega
        have h6 : Sat W w3 (sep (osl 39 1 a i c vs) _) := h5.forget_osl.p1
        have h7 := (h6.alloc (.cells #[.slice au rl cu] 39)).p1
        rw [← hfl]
        have HFL := Lib.hid hfl
        obtain ⟨m, hm⟩ : ∃ m, m = k + fl := ⟨_, rfl⟩
        have hmI : (k : Int) + (fl : Int) = (m : Int) := by omega
        have HM := Lib.hid hm
        clear h4 h5 hfl hm
        go_wp2_with (at_builtin; refine wpl_append_osl rfl (.tmp 30) (.tmp 32) 29 rfl 39 1 24 (.slice none 0 0) Tryz.underlying29 infoBytesJ rfl rfl h7 rfl [.slice au rl cu] rfl (by simp) (by intro b hb; cases hb; exact new_src _ [_] _) (by simp [Value.oneCell']) (by omega) (by unfold maxLen; omega) ?_)
        intro a9 c9 w9 h9
        clear h6 h7
        go_wp2_with fail
        refine ⟨⟨m, xs ++ [rk], a9, c9, vs ++ [.slice au rl cu], ?_, rfl, ?_, ?_⟩, ?_⟩
        · rw [List.length_append, ← HI.out]; rfl
        · have := HC.out.more HNE.out (by rw [← HI.out, ← HLK.out]; exact HT.out.symm)
          rw [← HLK.out, ← HRK.out, ← HI.out, ← HFL.out, ← HM.out] at this
          exact this
        · have e : (xs ++ [rk]).length = i + 1 := by rw [List.length_append, ← HI.out]; rfl
          rw [e]
          have h10 : Sat W w9 (sep (rBytes.is [.slice au rl cu] rk) _) := h9.p2.tell HX.out
          have h11 : Sat W w9 (sep ((rBytes.rows 1).is vs xs) (sep (rBytes.is [.slice au rl cu] rk) (sep (osl 39 1 a9 (i + 1) c9 (vs ++ [.slice au rl cu])) (sep (kn J) (sep A (blk w3.heap.size (.cells #[.slice au rl cu] 39))))))) := by
            simpa only [sep_comm, sep_lcomm, sep_assoc] using h10
          have h12 : Sat W w9 (sep (kn J) (sep (blk w3.heap.size (.cells #[.slice au rl cu] 39)) (sep ((rBytes.rows 1).is (vs ++ [.slice au rl cu]) (xs ++ [rk])) (sep (osl 39 1 a9 (i + 1) c9 (vs ++ [.slice au rl cu])) A)))) := by
            have := h11.snoc rfl
            simpa only [sep_comm, sep_lcomm, sep_assoc] using this
          have h13 := (h12.kn_mono HJ.out).p1.drop
          simpa only [sep_comm, sep_lcomm, sep_assoc] using h13
        · simp only [intOf]; have := HM.out; have := (frameJ_length i rk).1; rw [← HFL.out] at this; omega
    · have hge : ¬ (k : Int) < nl := by omega
      go_wp2_with fail
      go_ret2
      obtain ⟨e1, e2⟩ := HC.out.none (by
        rintro ⟨h, -⟩
        exact h (List.drop_eq_nil_of_le (by rw [← HNL.out]; omega)))
      refine ⟨.slice a i c, by rw [← e2]; rfl, ?_⟩
      have h9 := hS.slice_of_osl (R := rBytes) (k := 1) HI.out
      rw [e1] at h9
      exact h9
end Go.Proofs.YtdaknmcmjnbfeaaGreat
