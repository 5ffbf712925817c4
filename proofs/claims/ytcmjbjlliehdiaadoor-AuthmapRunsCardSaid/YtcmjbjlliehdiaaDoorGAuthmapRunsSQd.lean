/- The reference's Delete, and Set of what is refused. -/
import Derived.Test.YtcmjbjlliehdiaaDoorGAuthmapRuns40
namespace PA
open Go
def delP (L : PrL) (k : Int) : PrL := L.take (fndP L k) ++ L.drop (fndP L k + 1)
theorem delP_sub (L : PrL) (k : Int) : ∀ x ∈ delP L k, x ∈ L := fun x hx => by
  unfold delP at hx
  rcases List.mem_append.1 hx with h | h
  · exact List.mem_of_mem_take h
  · exact List.mem_of_mem_drop h
theorem delP_len (L : PrL) (k : Int) : (delP L k).length ≤ L.length := by
  unfold delP
  rw [List.length_append, List.length_take, List.length_drop]
  omega
theorem delP_asc {L : PrL} (h : AscP L) (k : Int) : AscP (delP L k) := by
  unfold AscP at h ⊢
  unfold delP
  rw [List.map_append, List.map_take, List.map_drop]
  exact h.sublist (by
    have : (L.map (·.1)).take (fndP L k) ++ (L.map (·.1)).drop (fndP L k + 1) = (L.map (·.1)).eraseIdx (fndP L k) := by
      rw [List.eraseIdx_eq_take_drop_succ]
    rw [this]
    exact List.eraseIdx_sublist _ _)
theorem delP_lk (k : Int) : ∀ {L : PrL}, AscP L → hasP L k = true → lkP (delP L k) = fset (lkP L) k none
  | [], _, h => by simp [hasP, fndP] at h
  | x :: l, ha, h => by
    by_cases hx : x.1 < k
    · rw [hasP_cons_lt hx] at h
      have e : fndP (x :: l) k = fndP l k + 1 := by rw [fndP, if_pos hx]
      have e2 : delP (x :: l) k = x :: delP l k := by unfold delP; rw [e]; simp
      have ih := delP_lk k ha.cons.2 h
      rw [e2]
      funext j
      have ihj := congrFun ih j
      simp only [lkP, ihj, fset]
      by_cases hj : j = x.1
      · rw [if_pos hj, if_neg (by omega), if_pos hj]
      · rw [if_neg hj, if_neg hj]
    · rw [hasP_cons_ge hx] at h
      have hk : x.1 = k := of_decide_eq_true h
      have e : fndP (x :: l) k = 0 := by rw [fndP, if_neg hx]
      have e2 : delP (x :: l) k = l := by unfold delP; rw [e]; simp
      rw [e2]
      funext j
      simp only [fset, lkP]
      by_cases hj : j = k
      · rw [if_pos hj, hj]
        exact lkP_none fun y hy => by have := ha.cons.1 y hy; omega
      · rw [if_neg hj, if_neg (by omega)]
theorem fnd_lt {L : PrL} {k : Int} (h : hasP L k = true) : fndP L k < L.length := by
  unfold hasP at h
  split at h
  · assumption
  · cases h
end PA
namespace Go.Proofs.YtcmjbjlliehdiaaDoor
open Go.RowKit PA
attribute [local go_sem] Oper.semAt_some
theorem qdel_range {W w : World} {A : Assn} (q : Nat) (k : Int) (h : Sat W w A) (hk : k < 0 ∨ 4095 < k) :
    Calls Tryd.prog 45 #[.pointer (some ⟨q, 0, none⟩), .int .i64 k] w fun e w' => e = .returned (.int .i64 5) ∧ Sat W w' A := by
  have H := Lib.hid h
  clear h
  go_enter Tryd.func45, Tryd.ntmps45
  by_cases h1 : k < 0
  · clear hk
    go_wp2_with fail
    go_ret
    exact ⟨rfl, H.out⟩
  · have h2 : 4095 < k := hk.resolve_left h1
    clear hk
    go_wp2_with fail
    go_ret
    exact ⟨rfl, H.out⟩
theorem qdel_none {W w : World} {A : Assn} (q : Nat) (L : PrL) (k : Int) (ha : AscP L) (h : Sat W w (sep (isQM q L) A)) (hl : L.length ≤ 4000) (hk : 0 ≤ k ∧ k ≤ 4095) (hn : hasP L k = false) :
    Calls Tryd.prog 45 #[.pointer (some ⟨q, 0, none⟩), .int .i64 k] w fun e w' => e = .returned (.int .i64 7) ∧ Sat W w' (sep (isQM q L) A) := by
  have hf := qfind_spec q L k ha h hl
  have hfi : findP L k = -1 := by unfold findP; rw [hn]; rfl
  rw [hfi] at hf
  obtain ⟨hk1, hk2⟩ := hk
  have HF := Lib.hid hf
  have H := Lib.hid h
  clear hf hfi hn h ha hl
  go_enter Tryd.func45, Tryd.ntmps45
  go_wp2_with fail
  refine HF.out.mono ?_
  rintro e w' ⟨rfl, rfl⟩
  go_wp2_with fail
  go_ret
  exact ⟨rfl, H.out⟩
set_option maxRecDepth 100000 in
set_option maxHeartbeats 4000000 in
theorem qdel_ok {W w : World} {A : Assn} {I : Mem} (q : Nat) (L : PrL) (k : Int) (ha : AscP L) (h : Sat W w (sep (isQM q L) (sep (kn I) A))) (hl : L.length ≤ 4000) (hk : 0 ≤ k ∧ k ≤ 4095) (hn : hasP L k = true) :
    Calls Tryd.prog 45 #[.pointer (some ⟨q, 0, none⟩), .int .i64 k] w fun e w' => e = .returned (.int .i64 0) ∧ Sat W w' (sep (isQM q (delP L k)) (sep (kn I) A)) := by
  have hf := qfind_spec q L k ha h hl
  have hfi : findP L k = (fndP L k : Nat) := by unfold findP; rw [hn]; rfl
  rw [hfi] at hf
  obtain ⟨a, c, cells, h0⟩ := isQM_open h
  have hlt := fnd_lt hn
  obtain ⟨i, hi⟩ : ∃ i, i = fndP L k := ⟨_, rfl⟩
  have hdl : delP L k = L.take i ++ L.drop (i + 1) := by rw [delP, ← hi]
  rw [← hi] at hf hlt
  obtain ⟨n, hn'⟩ : ∃ n, n = L.length := ⟨_, rfl⟩
  rw [← hn'] at h0 hlt hl
  have hz := (show Sat W w (sep (osl 34 2 a n c cells) _) from h0.p1).osl_len
  have hsw := (show Sat W w (sep (osl 34 2 a n c cells) _) from h0.p1).swf_of_osl
  have hnc : n ≤ c := hsw.1
  have hsrc := (show Sat W w (sep (osl 34 2 a n c cells) _) from h0.p1).osl_Src
  have hone : ∀ u ∈ cells, u.oneCell' = true := h0.p2.rows_all _ rPairQ_one
  have hnone := fun e => (show Sat W w (sep (osl 34 2 a n c cells) _) from h0.p1).osl_none e
  have hsl1 := run_slice_pre (P := Tryd.prog) (t := 27) (E := 34) (k := 2) Tryd.underlying27 (by kernel_rfl) a n c i (by omega)
  have c0 : w.cell? ⟨q, 0, none⟩ = some (.slice a n c) := h0.cell 0
  have h1 : Sat W w (sep (osl 34 2 none 0 0 []) (sep (blk q (.cells #[.slice a n c] 29 (0, 0))) (sep (osl 34 2 a n c cells) (sep ((rPairQ.rows 2).is cells L) (sep (kn I) A))))) := h0.osl_nil 34 2
  obtain ⟨hk1, hk2⟩ := hk
  have HF := Lib.hid hf
  have HS := Lib.hid (And.intro hsrc (And.intro hone (And.intro hz (And.intro hdl (And.intro hn' hnone)))))
  have H1 := Lib.hid h1
  clear hf hfi hn h ha h0 hi hdl hsw hsrc hone h1 hz hn' hnone
  go_enter Tryd.func45, Tryd.ntmps45
  go_wp2_with fail
  refine HF.out.mono ?_
  rintro e w' ⟨rfl, rfl⟩
  clear HF
  go_wp2_with (at_builtin; refine wpl_append_osl rfl (.tmp 18) (.tmp 24) 27 rfl 34 2 32 (.agg #[.int .i64 0, .slice none 0 0]) Tryd.underlying27 infoQPair rfl rfl H1.out rfl (cells.take (i * 2)) (by rw [List.length_take, HS.out.2.2.1.1]; omega) (fun e => by have := (HS.out.2.2.2.2.2 e).1; omega) (HS.out.1.take (i * 2)) (fun u hu => HS.out.2.1 u (List.mem_of_mem_take hu)) (by omega) (by unfold maxLen; omega) ?_)
  intro a2 c2 w2 h2
  have h3 : Sat W w2 (sep (osl 34 2 a2 i c2 (cells.take (i * 2))) (sep (osl 34 2 a n c cells) (sep ((rPairQ.rows 2).is cells L) (sep (kn I) (sep (blk q (.cells #[.slice a n c] 29 (0, 0))) A))))) := by
    simpa only [sep_comm, sep_lcomm, sep_assoc] using h2
  have c0' : w2.cell? ⟨q, 0, none⟩ = some (.slice a n c) := h3.p4.cell 0
  have hsl2 := run_slice_from (P := Tryd.prog) (t := 27) (E := 34) (k := 2) Tryd.underlying27 (by kernel_rfl) a n c (i + 1) (by omega)
  rw [show ((i + 1 : Nat) : Int) = (i : Int) + 1 by omega] at hsl2
  have hsr := (show Sat W w2 (sep (osl 34 2 a n c cells) _) from h3.p1).osl_Src.sub (c = i + 1) ((i + 1) * 2) (by intro e; have := HS.out.2.2.1.1; omega)
  obtain ⟨a6, ha6⟩ : ∃ a6, a6 = subA a (c = i + 1) ((i + 1) * 2) := ⟨_, rfl⟩
  have ha6n : a6 = none → n - (i + 1) = 0 := fun e => by have := (HS.out.2.2.2.2.2 (subA_none (by rw [← ha6]; exact e))).1; omega
  rw [← ha6] at hsl2 hsr
  have HSR := Lib.hid (And.intro hsr (And.intro ha6n h3))
  obtain ⟨m, hm⟩ : ∃ m, m = n - (i + 1) := ⟨_, rfl⟩
  rw [← hm] at hsl2 HSR
  have hm4 : m ≤ 4000 := by omega
  have HM := Lib.hid hm
  clear hsr ha6n ha6 h2 h3 c0 hsl1 H1 hm
  go_wp2_with (at_builtin; refine wpl_append_osl rfl (.tmp 27) (.tmp 34) 27 rfl 34 2 32 (.agg #[.int .i64 0, .slice none 0 0]) Tryd.underlying27 infoQPair rfl rfl HSR.out.2.2 rfl (cells.drop ((i + 1) * 2)) (by rw [List.length_drop, HS.out.2.2.1.1, HM.out, Nat.sub_mul]) HSR.out.2.1 HSR.out.1 (fun u hu => HS.out.2.1 u (List.mem_of_mem_drop hu)) (by omega) (by unfold maxLen; omega) ?_)
  intro a7 c7 w7 h10
  have d0 : w7.cell? ⟨q, 0, none⟩ = some (.slice a n c) := h10.p4.cell 0
  have u0 : w7.frozen? ⟨q, 0, none⟩ = false := h10.p4.unfrozen 0
  have h11 := h10.p4.setCell 0 (.slice a7 (i + m) c7)
  have H11 := Lib.hid h11
  clear h10 h11 c0' hsl2
  go_wp2_with fail
  go_ret
  refine ⟨rfl, ?_⟩
  have hle : i + m = (delP L k).length := by
    rw [HS.out.2.2.2.1, List.length_append, List.length_take, List.length_drop, ← HS.out.2.2.2.2.1, HM.out]
    omega
  have e1 : Sat W (w7.setCell ⟨q, 0, none⟩ (.slice a7 (i + m) c7)) (sep ((rPairQ.rows 2).is cells L) (sep (blk q (.cells #[.slice a7 (i + m) c7] 29 (0, 0))) (sep (osl 34 2 a7 (i + m) c7 (cells.take (i * 2) ++ cells.drop ((i + 1) * 2))) (sep (kn I) A)))) := by
    have := H11.out
    exact (show Sat W (w7.setCell ⟨q, 0, none⟩ (.slice a7 (i + m) c7)) (sep (osl 34 2 a n c cells) (sep ((rPairQ.rows 2).is cells L) (sep (blk q (.cells #[.slice a7 (i + m) c7] 29 (0, 0))) (sep (osl 34 2 a7 (i + m) c7 (cells.take (i * 2) ++ cells.drop ((i + 1) * 2))) (sep (kn I) A))))) by
      simpa only [sep_comm, sep_lcomm, sep_assoc, List.setIfInBounds_toArray, List.set_cons_zero] using this).forget_osl
  have e2 : Sat W (w7.setCell ⟨q, 0, none⟩ (.slice a7 (i + m) c7)) (sep ((rPairQ.rows 2).is (cells.take (i * 2) ++ cells.drop ((i + 1) * 2)) (delP L k)) (sep (blk q (.cells #[.slice a7 (i + m) c7] 29 (0, 0))) (sep (osl 34 2 a7 (i + m) c7 (cells.take (i * 2) ++ cells.drop ((i + 1) * 2))) (sep (kn I) A)))) := by
    refine e1.wk ?_
    rintro K mm ⟨x1, y1, d1, e1, ⟨rfl, h1⟩, h3⟩
    refine ⟨Mem.no, y1, d1, e1, ⟨rfl, ?_⟩, h3⟩
    rw [HS.out.2.2.2.1]
    exact rows_app (rows_cutQ h1 i).1 (rows_cutQ h1 (i + 1)).2
  exact isQM_mk hle (show Sat W (w7.setCell ⟨q, 0, none⟩ (.slice a7 (i + m) c7)) (sep (blk q (.cells #[.slice a7 (i + m) c7] 29 (0, 0))) (sep (osl 34 2 a7 (i + m) c7 (cells.take (i * 2) ++ cells.drop ((i + 1) * 2))) (sep ((rPairQ.rows 2).is (cells.take (i * 2) ++ cells.drop ((i + 1) * 2)) (delP L k)) (sep (kn I) A)))) by simpa only [sep_comm, sep_lcomm, sep_assoc] using e2)
theorem qset_range {W w : World} {A : Assn} (q : Nat) (k : Int) (v : Value) (h : Sat W w A) (hk : k < 0 ∨ 4095 < k) :
    Calls Tryd.prog 44 #[.pointer (some ⟨q, 0, none⟩), .int .i64 k, v] w fun e w' => e = .returned (.int .i64 5) ∧ Sat W w' A := by
  have H := Lib.hid h
  clear h
  go_enter Tryd.func44, Tryd.ntmps44
  by_cases h1 : k < 0
  · clear hk
    go_wp2_with fail
    go_ret
    exact ⟨rfl, H.out⟩
  · have h2 : 4095 < k := hk.resolve_left h1
    clear hk
    go_wp2_with fail
    go_ret
    exact ⟨rfl, H.out⟩
end Go.Proofs.YtcmjbjlliehdiaaDoor
