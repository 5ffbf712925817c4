/- journal.records, journal.Scan. -/
import Derived.RangeFuncBound
import Derived.RangeFuncCalls
import Derived.RangeFuncLeaves
import Derived.OwnWalkIn
import Derived.TacticsInMore
import Derived.LoopNIn
import Derived.LoopIn
import Derived.Test.YtdaknmcmjnbfeaaGreatRf
import Derived.Test.YtdaknmcmjnbfeaaGreatGJournalRunsSJ4
import Derived.Test.YtdaknmcmjnbfeaaGreatGJournalRuns7
namespace Go.Proofs.YtdaknmcmjnbfeaaGreat
open Go.RowKit PA
attribute [local go_sem] Oper.semAt_some
theorem stR_max (st : RSt) (m : Nat) (h : ∀ l, st = .ok l → l.length ≤ m) : (stR st).1.length ≤ m := by
  cases st with
  | ok l => exact Nat.le_trans (stU_le l) (h l rfl)
  | error e => exact Nat.zero_le _
theorem stU_rest (l r : List UInt8) (n : Nat) (h : stU (.ok l) = (n, .ok r)) : r.length ≤ l.length := by
  unfold stU at h; dsimp only at h
  cases hu : uintP l with
  | error e => rw [hu] at h; simp at h
  | ok x =>
    obtain ⟨m, l2⟩ := x
    rw [hu] at h; simp at h
    obtain ⟨-, k, e⟩ := uintGo_lt l 0 0 (by omega) (by decide) m l2 hu
    rw [← h.2, e, List.length_drop]; omega
theorem recJ_length (l : List UInt8) : (recJ l).length ≤ l.length := by
  have h1 := stU_le (cutJ l)
  have h2 : (cutJ l).length ≤ l.length := by rw [cutJ, List.length_take]; omega
  rw [recJ]
  refine stR_max _ _ fun r hr => ?_
  have : r.length ≤ (stR (.ok (cutJ l))).1.length := by
    have e : (stI (.ok (stR (.ok (cutJ l))).1)).2 = (stU (.ok (stR (.ok (cutJ l))).1)).2 := rfl
    rw [e] at hr
    exact stU_rest _ _ _ (Prod.ext rfl hr)
  omega
theorem scanJ_go {i : Nat} {l : List UInt8} (h : l ≠ [] ∧ l.take (frameJ i (recJ l)).length = frameJ i (recJ l)) :
    scanJ i l = (recJ l :: (scanJ (i + 1) (l.drop (frameJ i (recJ l)).length)).1, (frameJ i (recJ l)).length + (scanJ (i + 1) (l.drop (frameJ i (recJ l)).length)).2) := by
  rw [scanJ, dif_pos h]
structure RecY where
  v : Value
  b : List UInt8
  at_ : Nat
def RecY.encs (x : RecY) : Array Value := #[x.v, .int .i64 (x.at_ : Nat)]
def RecY.fx (x : RecY) : Assn := rBytes.is [x.v] x.b
def lastAt (xs : List RecY) : Nat := (xs.getLast?.map (·.at_)).getD 0
structure Came (l : List UInt8) (pre : List RecY) (k : Nat) : Prop where
  recs : (scanJ 0 l).1 = pre.map (·.b) ++ (scanJ pre.length (l.drop k)).1
  len : (scanJ 0 l).2 = k + (scanJ pre.length (l.drop k)).2
  last : lastAt pre = k
  le : k ≤ l.length
  num : pre.length ≤ k
theorem Came.start (l : List UInt8) : Came l [] 0 := ⟨by simp, by simp, rfl, Nat.zero_le _, Nat.le_refl _⟩
theorem Came.none {l : List UInt8} {pre : List RecY} {k : Nat} (h : Came l pre k) (hn : ¬ (l.drop k ≠ [] ∧ (l.drop k).take (frameJ pre.length (recJ (l.drop k))).length = frameJ pre.length (recJ (l.drop k)))) :
    pre.map (·.b) = (scanJ 0 l).1 ∧ lastAt pre = (scanJ 0 l).2 := by
  have := scanJ_no hn
  rw [h.recs, h.len, this, h.last]
  exact ⟨(List.append_nil _).symm, rfl⟩
theorem Came.more {l : List UInt8} {pre : List RecY} {k : Nat} (h : Came l pre k) (hn : l.drop k ≠ [] ∧ (l.drop k).take (frameJ pre.length (recJ (l.drop k))).length = frameJ pre.length (recJ (l.drop k))) (v : Value) :
    Came l (pre ++ [⟨v, recJ (l.drop k), k + (frameJ pre.length (recJ (l.drop k))).length⟩]) (k + (frameJ pre.length (recJ (l.drop k))).length) := by
  have h1 := h.recs
  have h2 := h.len
  have hl := (frameJ_length pre.length (recJ (l.drop k))).1
  have ht := congrArg List.length hn.2
  rw [List.length_take, List.length_drop] at ht
  rw [scanJ_go hn] at h1 h2
  dsimp only at h1 h2
  rw [List.drop_drop] at h1 h2
  refine ⟨?_, ?_, ?_, ?_, ?_⟩
  · rw [h1, List.map_append, List.append_assoc, List.length_append]; rfl
  · rw [h2, List.length_append, Nat.add_assoc]; rfl
  · simp [lastAt]
  · have := h.le; omega
  · rw [List.length_append, List.length_singleton]; have := h.num; omega
theorem rel_drop {I : Mem} {b o n c : Nat} {l : List UInt8} (k : Nat) (hn : n = l.length) (hk : k ≤ n) (hv : rBytes.rel I [.slice (some ⟨b, o, none⟩) n c] l) : rBytes.rel I [.slice (some ⟨b, o + k, none⟩) (n - k) (c - k)] (l.drop k) := by
  subst hn
  obtain ⟨a', c', e, hw, hc⟩ := bytes_rel.1 hv
  cases e
  have hl : (l.drop k).length = l.length - k := List.length_drop
  refine bytes_rel.2 ⟨_, c - k, by rw [hl], ⟨by rw [hl]; have := hw.1; omega, by have := hw.2.1; omega, fun h => (by cases h)⟩, ?_⟩
  rcases hc with hc | ⟨b', o', cs, t, f, e1, e2, e3⟩
  · left
    have : l = [] := by simpa using hc
    rw [this]; simp
  · right
    cases e1
    refine ⟨b, o + k, cs, t, f, rfl, e2, fun i u hu => ?_⟩
    rw [List.map_drop, List.getElem?_drop] at hu
    have := e3 (k + i) u hu
    rwa [Nat.add_assoc]
set_option maxRecDepth 100000 in
set_option maxHeartbeats 4000000 in
theorem records1_gives {W : World} {A : Assn} {I : Mem} (n : Nat) (hn : 1 ≤ n) (Bs : Nat) (v : Value) (l : List UInt8) (hv : rBytes.rel I [v] l) (hl : l.length ≤ 1000000) :
    Gives Fence.wide n Tryz.prog W 60 #[.pointer (some ⟨Bs, 0, none⟩)] RecY.encs RecY.fx l.length (fun xs => xs.map (·.b) = (scanJ 0 l).1 ∧ lastAt xs = (scanJ 0 l).2)
      (sep (blk Bs (.cells #[v] 39 (0, 0))) (sep (kn I) A)) (sep (blk Bs (.cells #[v] 39 (0, 0))) (sep (kn I) A)) := by
  intro lp R w hY h0
  obtain ⟨a, c, rfl, hsw, -⟩ := bytes_rel.1 hv
  have hlc := hsw.1
  have hcap := hsw.2.1
  unfold maxLen at hcap
  obtain ⟨nl, hnl⟩ : ∃ nl, nl = l.length := ⟨_, rfl⟩
  rw [← hnl] at hlc hl hv h0 hY ⊢
  have HNL := Lib.hid hnl
  have HV := Lib.hid hv
  have HY := Lib.hid hY
  clear hnl hv hY hsw
  refine callsIn_of_wp Tryz.func60 rfl trivial ?_ rfl
  simp only [Tryz.ntmps60, List.size_toArray, List.length_cons, List.length_nil, Nat.reduceAdd, Nat.reduceSub, Array.replicate_succ, Array.replicate_zero, List.push_toArray, List.append_toArray, List.nil_append, List.cons_append]
  gi_wp2
  gi_loopw [3, 4] (fun kv iv wr => ∃ (k : Nat) (pre : List RecY), kv = .int .i64 (k : Nat) ∧ iv = .int .i64 (pre.length : Nat) ∧ Came l pre k ∧ Sat W wr (sep (R pre) (sep (blk Bs (.cells #[.slice a nl c] 39 (0, 0))) (sep (kn I) A)))) (fun kv _ _ => nl - (intOf kv).toNat)
  case atStart => exact ⟨0, [], rfl, rfl, Came.start l, h0⟩
  case round =>
    clear h0
    obtain ⟨k, pre, rfl, rfl, hcame, hS⟩ := hrel
    have hc : wr.cell? ⟨Bs, 0, none⟩ = some (.slice a nl c) := hS.p1.cell 0
    obtain ⟨i, hi⟩ : ∃ i, i = pre.length := ⟨_, rfl⟩
    have hik : i ≤ k := by rw [hi]; exact hcame.num
    have hkl : k ≤ nl := by rw [HNL.out]; exact hcame.le
    rw [← hi]
    have HI := Lib.hid hi
    have HC := Lib.hid hcame
    clear hi hcame
    by_cases hlt : k < nl
    · have hltI : (k : Int) < nl := by omega
      obtain ⟨bb, oo, rfl⟩ : ∃ bb oo, a = some ⟨bb, oo, none⟩ := by
        obtain ⟨a', c', e, _, hcs⟩ := bytes_rel.1 HV.out
        cases e
        obtain ⟨b, o, e, _⟩ := cells_ext hcs (fun e => by have := congrArg List.length e; rw [List.length_map, List.length_nil, ← HNL.out] at this; omega)
        exact ⟨b, o, e⟩
      have hrel := rel_drop k HNL.out hkl HV.out
      obtain ⟨lk, hlk⟩ : ∃ lk, lk = l.drop k := ⟨_, rfl⟩
      rw [← hlk] at hrel
      obtain ⟨vk, hvk⟩ : ∃ vk, vk = Value.slice (some ⟨bb, oo + k, none⟩) (nl - k) (c - k) := ⟨_, rfl⟩
      have hlkl : lk.length ≤ 1000000 := by rw [hlk, List.length_drop, ← HNL.out]; omega
      rw [hvk] at *
      have HR := Lib.hid hrel
      have HLK := Lib.hid hlk
      have HKL := Lib.hid hlkl
      clear hrel hlk hlkl hvk
      gi_wp2_with fail
      refine ⟨trivial, (callsIn_wide.2 (record_spec _ lk hS.p2 HR.out (by have := HKL.out; omega))).mono ?_⟩
      rintro e w1 ⟨x, rfl, h1⟩
      obtain ⟨rk, hrk⟩ : ∃ rk, rk = recJ lk := ⟨_, rfl⟩
      have hrkl : rk.length ≤ 1000000 := by rw [hrk]; have := recJ_length lk; have := HKL.out; omega
      rw [← hrk] at h1
      obtain ⟨J, hJ, hx, h2⟩ := h1.learn
      have HRK := Lib.hid hrk
      have HX := Lib.hid hx
      have HJ := Lib.hid hJ
      clear hS hc hrk hx hJ h1
      gi_wp2_with fail
      refine ⟨trivial, (callsIn_wide.2 (jframe_spec (i : Int) x rk h2 HX.out ⟨by omega, by omega⟩ hrkl)).mono ?_⟩
      rintro e w3 ⟨fa, fc, rfl, h3⟩
      obtain ⟨fr, hfr⟩ : ∃ fr, fr = frameJ i rk := ⟨_, rfl⟩
      rw [← hfr] at h3 ⊢
      have hfl : fr.length ≤ 1000040 := by rw [hfr]; have := frameJ_le i rk (by omega) (by omega) (by omega); omega
      obtain ⟨hfl2, h4⟩ := h3.bytes_of_osl
      obtain ⟨K, hK, hf, h5⟩ := h4.learn
      obtain ⟨fl, hfl3⟩ : ∃ fl, fl = fr.length := ⟨_, rfl⟩
      rw [← hfl3] at hf hfl ⊢
      obtain ⟨fv, hfv⟩ : ∃ fv, fv = Value.slice fa fl fc := ⟨_, rfl⟩
      have hfc : fl ≤ fc ∧ fc ≤ 9223372036854775807 := by
        obtain ⟨a', c', e, hw, _⟩ := bytes_rel.1 hf
        cases e
        exact ⟨by rw [hfl3]; exact hw.1, hw.2.1⟩
      have hc : w3.cell? ⟨Bs, 0, none⟩ = some (.slice (some ⟨bb, oo, none⟩) nl c) := h5.p2.cell 0
      have HF := Lib.hid hf
      have HK := Lib.hid hK
      have HFR := Lib.hid hfr
      have HFL := Lib.hid hfl3
      clear h2 h3 h4 hf hK hfr hfl2 hfv hrkl hfl3
      gi_wp2_with fail
      refine ⟨trivial, (callsIn_wide.2 (hasprefix_spec _ _ lk fr h5 (rBytes.mono (Mem.le_trans HJ.out HK.out) HR.out) HF.out)).mono ?_⟩
      rintro e w4 ⟨rfl, h6⟩
      obtain ⟨t, ht⟩ : ∃ t, t = decide (lk.take fr.length = fr) := ⟨_, rfl⟩
      rw [← ht]
      have HT := Lib.hid ht
      clear ht h5 hc
      cases t with
      | false =>
        gi_wp2_with fail
        refine bodyPost_ret (results_none rfl _ _ _) rfl ?_
        have hno := HC.out.none (by
          rintro ⟨-, h⟩
          have := of_decide_eq_false HT.out.symm
          rw [← HLK.out, ← HRK.out, ← HI.out, ← HFR.out] at h
          exact this h)
        refine ⟨⟨_, rfl⟩, pre, hno, ?_⟩
        have h7 := h6.kn_mono (Mem.le_trans HJ.out HK.out)
        simpa only [sep_comm, sep_lcomm, sep_assoc] using h7
      | true =>
        obtain ⟨m, hm⟩ : ∃ m, m = k + fl := ⟨_, rfl⟩
        have hmI : (k : Int) + (fl : Int) = (m : Int) := by omega
        have hmore := HC.out.more (by
          have h := of_decide_eq_true HT.out.symm
          rw [← HLK.out, ← HRK.out, ← HI.out, ← HFR.out]
          refine ⟨fun e => ?_, h⟩
          have := congrArg List.length (HLK.out.symm.trans e)
          rw [List.length_drop, List.length_nil, ← HNL.out] at this
          omega) x
        rw [← HLK.out, ← HRK.out, ← HI.out, ← HFR.out, ← HFL.out, ← hm] at hmore
        have hx : Sat W w4 (sep (R pre) (sep (RecY.fx ⟨x, rk, m⟩) (sep (blk Bs (.cells #[.slice (some ⟨bb, oo, none⟩) nl c] 39 (0, 0))) (sep (kn I) A)))) := by
          have h7 : Sat W w4 (sep (rBytes.is [x] rk) _) := h6.tell (rBytes.mono HK.out HX.out)
          have h8 := (h7.p1.kn_mono (Mem.le_trans HJ.out HK.out))
          show Sat W w4 (sep (R pre) (sep (rBytes.is [x] rk) _))
          simpa only [sep_comm, sep_lcomm, sep_assoc] using h8
        obtain ⟨fn, tmps, assign, body, hy, hR⟩ := HY.out pre ⟨x, rk, m⟩ w4 _ (by have := HI.out; omega) hx
        dsimp only [RecY.encs] at hy
        have HM := Lib.hid hm
        have HMO := Lib.hid hmore
        clear hm hmore h6 hx
        gi_wp2_with fail
        refine hR.mono ?_
        rintro e' w5 ⟨rfl, h9⟩
        clear hR hy
        gi_wp2_with fail
        go_roundw
        case rel => exact ⟨m, _, rfl, by rw [List.length_append, ← HI.out]; go_num, HMO.out, h9⟩
        case measure => simp only [intOf]; have := HM.out; have := frameJ_length i rk; rw [← HFR.out, ← HFL.out] at this; omega
    · have hkn : k = nl := by omega
      have hno := HC.out.none (by
        rintro ⟨h, -⟩
        exact h (List.drop_eq_nil_of_le (by rw [← HNL.out]; omega)))
      have hge : ¬ (k : Int) < nl := by omega
      clear hkn hlt
      gi_wp2_with fail
      go_end0
      exact ⟨⟨_, rfl⟩, pre, hno, hS⟩
theorem records_in (F : Fence) (n : Nat) (hF : F.fn 44) (hro : F.round = none) (ad : Option Addr) (len cp : Nat) (w : World) :
    CallsIn F n Tryz.prog 44 #[.slice ad len cp] w fun e w' => e = .returned (.func (.func 60) #[] #[.pointer (some ⟨w.heap.size, 0, none⟩)]) ∧ w' = w.alloc (.cells #[.slice ad len cp] 39) := by
  refine callsIn_of_wp Tryz.func44 rfl hF ?_ hro
  simp only [Tryz.ntmps44, List.size_toArray, List.length_cons, List.length_nil, Nat.reduceAdd, Nat.reduceSub, Array.replicate_succ, Array.replicate_zero, List.push_toArray, List.append_toArray, List.nil_append, List.cons_append]
  gi_wp2
  go_ret
  exact ⟨rfl, rfl⟩
theorem infoBytesJ : (Tryz.prog.info? 39).map (fun i => (i.zero, i.size, i.bytes)) = some (some (.slice none 0 0), 1, 24) := by kernel_rfl
/-- What Scan's loop holds: out, n, out's row. -/
def scanC (B : Nat) (xs : List RecY) : Assn := ex fun p : Option Addr × Nat × List Value =>
  sep (blk B (.cells #[.slice p.1 xs.length p.2.1] 29 (0, 0))) (sep (blk (B + 1) (.cells #[.int .i64 (lastAt xs : Nat)] 3 (0, 0)))
    (sep (osl 39 1 p.1 xs.length p.2.1 p.2.2) ((rBytes.rows 1).is p.2.2 (xs.map (·.b)))))
set_option maxRecDepth 100000 in
set_option maxHeartbeats 4000000 in
theorem scan_spec {W w : World} {A : Assn} {I : Mem} (v : Value) (l : List UInt8) (h : Sat W w (sep (kn I) A)) (hv : rBytes.rel I [v] l) (hl : l.length ≤ 1000000) :
    Calls Tryz.prog 23 #[v] w fun e w' => ∃ u, e = .returned (.tuple #[u, .int .i64 ((scanJ 0 l).2 : Nat)]) ∧ Sat W w' (sep ((rBytes.slice 1).is [u] (scanJ 0 l).1) (sep (kn I) A)) := by
  obtain ⟨a, c, rfl, hsw, -⟩ := bytes_rel.1 hv
  obtain ⟨nl, hnl⟩ : ∃ nl, nl = l.length := ⟨_, rfl⟩
  have HNL := Lib.hid hnl
  obtain ⟨B, hB⟩ : ∃ B, B = w.heap.size := ⟨_, rfl⟩
  have hgv := records1_gives (W := W) (A := A) (I := I) (3 - 1) (by omega) (B + 2) _ l hv hl
  rw [← hnl] at hgv ⊢
  have HG := Lib.hid hgv
  have HL := Lib.hid hl
  have HB := Lib.hid hB
  clear hsw hnl hv hl hgv
  refine (callsIn_wide (n := 3)).1 ?_
  refine callsIn_of_wp_marks Tryz.func23 rfl trivial ?_ rfl
  simp only [Tryz.ntmps23, List.size_toArray, List.length_cons, List.length_nil, Nat.reduceAdd, Nat.reduceSub, Array.replicate_succ, Array.replicate_zero, List.push_toArray, List.append_toArray, List.nil_append, List.cons_append]
  gi_wp2_with (refine ⟨trivial, ?_⟩; gi_at_call 44; refine (records_in Fence.wide _ trivial rfl _ _ _ _).mono ?_; rintro e w' ⟨rfl, rfl⟩)
  obtain ⟨w1, hw1⟩ : ∃ w1, w1 = ((w.alloc (.cells #[.slice none 0 0] 29)).alloc (.cells #[.int .i64 0] 3)).alloc (.cells #[.slice a nl c] 39) := ⟨_, rfl⟩
  have h1 : Sat W w1 (sep (scanC B []) (sep (blk (B + 2) (.cells #[.slice a nl c] 39 (0, 0))) (sep (kn I) A))) := by
    have h1 := ((h.alloc (.cells #[.slice none 0 0] 29)).alloc (.cells #[.int .i64 0] 3)).alloc (.cells #[.slice a nl c] 39)
    rw [World.size_alloc, World.size_alloc, ← hw1, ← hB] at h1
    rw [scanC, ex_sep, Sat.ex]
    refine ⟨(none, 0, []), ?_⟩
    have h2 := Sat.startPers W (fun I => (rBytes.rows 1).rel I [] []) (fun _ _ hl h => (rBytes.rows 1).mono hl h) (h1.osl_nil 39 1) ⟨[], rfl, trivial⟩
    have e2 : B + 1 + 1 = B + 2 := rfl
    rw [e2] at h2
    show Sat W w1 (sep (sep (blk B (.cells #[.slice none 0 0] 29 (0, 0))) (sep (blk (B + 1) (.cells #[.int .i64 0] 3 (0, 0))) (sep (osl 39 1 none 0 0 []) (pers (fun I => (rBytes.rows 1).rel I [] []) (fun _ _ hl h => (rBytes.rows 1).mono hl h))))) _)
    simpa only [sep_comm, sep_lcomm, sep_assoc] using h2
  rw [← hw1, ← hB]
  clear hw1 hB h
  refine wpIn_range (F := Fence.wide) (W := W) rfl (by omega) (gf := 60) (lb := #[.pointer (some ⟨B + 2, 0, none⟩)]) rfl trivial (enters_of Tryz.func60 (by kernel_rfl) rfl) (encs := RecY.encs) (fun _ => rfl) HG.out (scanC B) h1
    (fun x => { tmps := #[.slice a nl c, undef, .slice none 0 0, .int .i64 0, .pointer (some ⟨B, 0, none⟩), .pointer (some ⟨B + 1, 0, none⟩), x.v, .int .i64 (x.at_ : Nat), .slice a nl c, .func (.func 60) #[] #[.pointer (some ⟨B + 1 + 1, 0, none⟩)], x.v, .int .i64 (x.at_ : Nat), undef, undef, undef, undef, undef, undef, undef], defers := [] }) ?assign ?body ?done
  case assign =>
    rintro lp ⟨xv, xb, xa⟩ w' K hK
    dsimp only [RecY.encs]
    gi_wp2
    exact hK
  case body =>
    rintro lp pre ⟨xv, xb, xa⟩ w' A' hlen hS
    rw [scanC, ex_sep, Sat.ex] at hS
    obtain ⟨⟨oa, oc, vs⟩, hS⟩ := hS
    dsimp only [RecY.fx] at hS
    obtain ⟨xad, xc, rfl, -, -⟩ := Sat.bytes_open hS.p1
    obtain ⟨xl, hxl⟩ : ∃ xl, xl = xb.length := ⟨_, rfl⟩
    obtain ⟨pl, hpl⟩ : ∃ pl, pl = pre.length := ⟨_, rfl⟩
    rw [← hxl, ← hpl] at hS
    rw [← hxl]
    have h1 : Sat W w' (sep (blk B (.cells #[.slice oa pl oc] 29 (0, 0))) (sep (blk (B + 1) (.cells #[.int .i64 (lastAt pre : Nat)] 3 (0, 0))) (sep (osl 39 1 oa pl oc vs) (sep ((rBytes.rows 1).is vs (pre.map (·.b))) (sep (rBytes.is [.slice xad xl xc] xb) A'))))) := by
      simpa only [sep_comm, sep_lcomm, sep_assoc] using hS
    have hbox : w'.cell? ⟨B, 0, none⟩ = some (.slice oa pl oc) := h1.cell 0
    have hpl2 : pl ≤ 1000000 := by have := HL.out; have := HNL.out; omega
    have h2 := (h1.alloc (.cells #[.slice xad xl xc] 39)).p3
    have HXL := Lib.hid hxl
    have HPL := Lib.hid hpl
    clear hS h1 hxl hpl
    gi_wp2_with (gi_at_builtin; refine wpli_append_osl rfl (.tmp 12) (.tmp 14) 29 rfl 39 1 24 (.slice none 0 0) Tryz.underlying29 infoBytesJ rfl rfl h2 rfl [.slice xad xl xc] rfl (by simp) (by intro b hb; cases hb; exact new_src _ [_] _) (by simp [Value.oneCell']) (by omega) (by unfold maxLen; omega) ?_)
    intro oa2 oc2 w2 h3
    have h4 := h3.p2
    have hf1 := h4.unfrozen 0
    have hc1 := h4.cell 0
    have h5 := (h4.setCell 0 (.slice oa2 (pl + 1) oc2)).p3
    have hf2 := h5.unfrozen 0
    have hc2 := h5.cell 0
    have h6 := h5.setCell 0 (.int .i64 (xa : Nat))
    clear h2 h3 h4 h5
    gi_wp2_with fail
    show Sat W _ _
    have e : pl + 1 = (pre ++ [(⟨.slice xad xl xc, xb, xa⟩ : RecY)]).length := by rw [List.length_append, ← HPL.out]; rfl
    rw [scanC, ex_sep, Sat.ex]
    refine ⟨(oa2, oc2, vs ++ [.slice xad xl xc]), ?_⟩
    dsimp only
    rw [← e]
    have e3 : lastAt (pre ++ [(⟨.slice xad xl xc, xb, xa⟩ : RecY)]) = xa := by simp [lastAt]
    rw [e3, List.map_append, List.map_cons, List.map_nil]
    have h7 : Sat W ((w2.setCell ⟨B, 0, none⟩ (.slice oa2 (pl + 1) oc2)).setCell ⟨B + 1, 0, none⟩ (.int .i64 (xa : Nat))) (sep (blk w'.heap.size (.cells #[.slice xad xl xc] 39)) (sep ((rBytes.rows 1).is vs (pre.map (·.b))) (sep (rBytes.is [.slice xad xl xc] xb) (sep (blk B (.cells #[.slice oa2 (pl + 1) oc2] 29 (0, 0))) (sep (blk (B + 1) (.cells #[.int .i64 (xa : Nat)] 3 (0, 0))) (sep (osl 39 1 oa2 (pl + 1) oc2 (vs ++ [.slice xad xl xc])) A')))))) := by
      simpa only [sep_comm, sep_lcomm, sep_assoc, List.setIfInBounds_toArray, List.set_cons_zero] using h6
    have h8 := h7.drop.snoc rfl
    simpa only [sep_comm, sep_lcomm, sep_assoc] using h8
  case done =>
    intro D xs w' hS hS'
    rw [scanC] at hS'
    have h2 : Sat W w' (sep (ex _) _) := hS'.p1
    rw [ex_sep, Sat.ex] at h2
    obtain ⟨⟨oa, oc, vs⟩, h2⟩ := h2
    dsimp only at h2
    have h3 : Sat W w' (sep (blk B (.cells #[.slice oa xs.length oc] 29 (0, 0))) (sep (blk (B + 1) (.cells #[.int .i64 (lastAt xs : Nat)] 3 (0, 0))) (sep (blk D (.deferred (some []))) (sep (osl 39 1 oa xs.length oc vs) (sep ((rBytes.rows 1).is vs (xs.map (·.b))) (sep (kn I) (sep (blk (B + 2) (.cells #[.slice a nl c] 39 (0, 0))) A))))))) := by
      simpa only [sep_comm, sep_lcomm, sep_assoc] using h2
    have hc1 : w'.cell? ⟨B, 0, none⟩ = some (.slice oa xs.length oc) := h3.cell 0
    have hc2 : w'.cell? ⟨B + 1, 0, none⟩ = some (.int .i64 (lastAt xs : Nat)) := h3.p1.cell 0
    have hD := h3.p2.blk_heap
    obtain ⟨ll, hll⟩ : ∃ ll, ll = xs.length := ⟨_, rfl⟩
    obtain ⟨la, hla⟩ : ∃ la, la = lastAt xs := ⟨_, rfl⟩
    rw [← hll] at hc1
    rw [← hla] at hc2
    have HLL := Lib.hid hll
    have HLA := Lib.hid hla
    have HS := Lib.hid hS
    clear hS' h1 h2 hll hla hS
    gi_wp2_with fail
    gi_region
    gi_wp2_with fail
    have hS := HS.out
    refine ⟨by simp, .inl ⟨_, _, rfl, run_takeDeferred hD, ?_⟩⟩
    refine ⟨_, results_tmp2 rfl _ _ _, .slice oa ll oc, ?_, ?_⟩
    · rw [← hS.2, ← HLA.out]; rfl
    · have h4 := ((h3.drew.p2.putObj (.deferred none)).drop.drop.drop).p3.drop
      have h5 := h4.slice_of_osl (R := rBytes) (k := 1) (by simp)
      rw [← HLL.out, hS.1] at h5
      exact h5
end Go.Proofs.YtdaknmcmjnbfeaaGreat
