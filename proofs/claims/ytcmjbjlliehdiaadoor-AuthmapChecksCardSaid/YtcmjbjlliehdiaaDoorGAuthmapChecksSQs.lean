/- The reference's map: what it holds; Find, Set. -/
import Derived.Test.YtcmjbjlliehdiaaDoorGAuthmapChecks5
import Derived.Test.YtcmjbjlliehdiaaDoorGAuthmapChecks12
import Derived.Test.YtcmjbjlliehdiaaDoorGAuthmapChecks16
namespace PA
open Go Go.RowKit
theorem take2 {cells : List Value} {i : Nat} {u v : Value} (h0 : cells[i * 2]? = some u) (h1 : cells[i * 2 + 1]? = some v) : cells.take ((i + 1) * 2) = cells.take (i * 2) ++ [u, v] := by
  obtain ⟨l0, e0⟩ := List.getElem?_eq_some_iff.1 h0
  obtain ⟨l1, e1⟩ := List.getElem?_eq_some_iff.1 h1
  rw [show (i + 1) * 2 = i * 2 + 1 + 1 by omega, List.take_succ_eq_append_getElem l1, List.take_succ_eq_append_getElem l0, e0, e1, List.append_assoc]
  rfl
theorem flat_take {k : Nat} : ∀ (css : List (List Value)), (∀ c ∈ css, c.length = k) → ∀ m, css.flatten.take (m * k) = (css.take m).flatten
  | [], _, m => by simp
  | c :: css, h, 0 => by simp
  | c :: css, h, m + 1 => by
    have hc := h c (by simp)
    rw [List.flatten_cons, List.take_succ_cons, List.flatten_cons, ← flat_take css (fun x hx => h x (by simp [hx])) m, List.take_append, hc]
    rw [List.take_of_length_le (by rw [hc, Nat.add_mul]; omega)]
    congr 2
    rw [Nat.add_mul]; omega
theorem flat_drop {k : Nat} : ∀ (css : List (List Value)), (∀ c ∈ css, c.length = k) → ∀ m, css.flatten.drop (m * k) = (css.drop m).flatten
  | [], _, m => by simp
  | c :: css, h, 0 => by simp
  | c :: css, h, m + 1 => by
    have hc := h c (by simp)
    rw [List.flatten_cons, List.drop_succ_cons, ← flat_drop css (fun x hx => h x (by simp [hx])) m, List.drop_append, hc]
    rw [List.drop_of_length_le (by rw [hc, Nat.add_mul]; omega), List.nil_append]
    congr 1
    rw [Nat.add_mul]; omega
theorem rows_cutQ {α : Type} {R : Rep α} {k : Nat} {I : Mem} {cs : List Value} {xs : List α} (h : (R.rows k).rel I cs xs) (m : Nat) : (R.rows k).rel I (cs.take (m * k)) (xs.take m) ∧ (R.rows k).rel I (cs.drop (m * k)) (xs.drop m) := by
  obtain ⟨css, rfl, hall⟩ := h
  exact ⟨⟨css.take m, flat_take css (fun c hc => (hall.mem c hc).choose_spec.2) m, hall.take m⟩, ⟨css.drop m, flat_drop css (fun c hc => (hall.mem c hc).choose_spec.2) m, hall.drop m⟩⟩
theorem rows_putQ {W w : World} {A : Assn} {J : Mem} {α : Type} {R : Rep α} {k : Nat} {cells en : List Value} {L : List α} {x : α} (h : Sat W w (sep ((R.rows k).is cells L) (sep (kn J) A))) (he : R.rel J en x) (hk : en.length = k) (m m2 : Nat) :
    Sat W w (sep ((R.rows k).is (cells.take (m * k) ++ (en ++ cells.drop (m2 * k))) (L.take m ++ x :: L.drop m2)) (sep (kn J) A)) := by
  refine h.wk ?_
  rintro K mm ⟨x1, y1, d1, e1, ⟨rfl, h1⟩, x2, y2, d2, rfl, ⟨rfl, hle⟩, h3⟩
  exact ⟨Mem.no, _, d1, e1, ⟨rfl, rows_app (rows_cutQ h1 m).1 (rows_app (rows_one (R.mono hle he) hk) (rows_cutQ h1 m2).2)⟩, Mem.no, y2, d2, rfl, ⟨rfl, hle⟩, h3⟩
end PA
namespace Go.Proofs.YtcmjbjlliehdiaaDoor
open Go.RowKit PA
theorem infoQPair : (Tryd.prog.info? 34).map (fun i => (i.zero, i.size, i.bytes)) = some (some (.agg #[.int .i64 0, .slice none 0 0]), 2, 32) := by kernel_rfl
theorem rPairQ_one (I : Mem) (c : List Value) (x : Int × List UInt8) (h : rPairQ.rel I c x) : ∀ u ∈ c, u.oneCell' = true := by
  obtain ⟨a, n, rfl, _⟩ := h
  intro u hu
  simp at hu
  rcases hu with rfl | rfl <;> rfl
def isQM (q : Nat) (L : PrL) : Assn := ex fun x : Option Addr × Nat × List Value =>
  sep (osl 34 2 x.1 L.length x.2.1 x.2.2) (sep ((rPairQ.rows 2).is x.2.2 L) (blk q (.cells #[.slice x.1 L.length x.2.1] 29 (0, 0))))
section
variable {W w : World} {A : Assn}
theorem isQM_open {q : Nat} {L : PrL} (h : Sat W w (sep (isQM q L) A)) : ∃ a c cells,
    Sat W w (sep (blk q (.cells #[.slice a L.length c] 29 (0, 0))) (sep (osl 34 2 a L.length c cells) (sep ((rPairQ.rows 2).is cells L) A))) := by
  rw [isQM, ex_sep, Sat.ex] at h
  obtain ⟨⟨a, c, cells⟩, h⟩ := h
  exact ⟨a, c, cells, by simpa only [sep_comm, sep_lcomm, sep_assoc] using h⟩
theorem isQM_mk {q : Nat} {L : PrL} {a : Option Addr} {n c : Nat} {cells : List Value} (hn : n = L.length)
    (h : Sat W w (sep (blk q (.cells #[.slice a n c] 29 (0, 0))) (sep (osl 34 2 a n c cells) (sep ((rPairQ.rows 2).is cells L) A)))) : Sat W w (sep (isQM q L) A) := by
  subst hn
  rw [isQM, ex_sep, Sat.ex]
  exact ⟨(a, c, cells), by simpa only [sep_comm, sep_lcomm, sep_assoc] using h⟩
/-- Where the pairs lie. -/
theorem qm_cells {a : Option Addr} {n c : Nat} {cells : List Value} {L : PrL} (h : Sat W w (sep (osl 34 2 a n c cells) (sep ((rPairQ.rows 2).is cells L) A))) (i : Nat) (hi : i < L.length) :
    ∃ g b d, a = some ⟨g, 0, none⟩ ∧ w.cell? ⟨g, i * 2, none⟩ = some (.int .i64 L[i].1) ∧ w.cell? ⟨g, i * 2 + 1, none⟩ = some (.slice b L[i].2.length d) ∧ cells[i * 2]? = some (.int .i64 L[i].1) ∧ cells[i * 2 + 1]? = some (.slice b L[i].2.length d) := by
  obtain ⟨cv, h1, h2, h3⟩ := h.p1.rows_get i hi
  obtain ⟨b, d, rfl, hr⟩ := h3.pers_heap
  have hne : cells ≠ [] := fun e => by
    have := h2 0 (by omega)
    rw [e] at this; simp at this
  obtain ⟨g, rfl, hg⟩ := h.osl_at hne
  exact ⟨g, b, d, rfl, hg _ _ (h2 0 (by omega)), hg _ _ (h2 1 (by omega)), h2 0 (by omega), h2 1 (by omega)⟩
end
set_option maxRecDepth 100000 in
set_option maxHeartbeats 8000000 in
theorem qset_ok {W w : World} {A : Assn} {I : Mem} (q : Nat) (L : PrL) (k : Int) (v : Value) (x : List UInt8) (h : Sat W w (sep (isQM q L) (sep (kn I) A))) (hv : rBytes.rel I [v] x) (hx : x.length ≤ 65536) (hl : L.length ≤ 4000) (hk : 0 ≤ k ∧ k ≤ 4095) :
    Calls Tryd.prog 44 #[.pointer (some ⟨q, 0, none⟩), .int .i64 k, v] w fun e w' => e = .returned (.int .i64 0) ∧ Sat W w' (sep (isQM q (setP L k x)) (sep (kn I) A)) := by
  obtain ⟨a, c, cells, h0⟩ := isQM_open h
  obtain ⟨va, vc, rfl, -⟩ := bytes_rel.1 hv
  obtain ⟨f, hf⟩ : ∃ f, f = fndP L k := ⟨_, rfl⟩
  obtain ⟨n, hn⟩ : ∃ n, n = L.length := ⟨_, rfl⟩
  have hfn : f ≤ n := by rw [hf, hn]; exact fndP_le L k
  obtain ⟨xl, hxl⟩ : ∃ xl, xl = x.length := ⟨_, rfl⟩
  rw [← hxl] at hx hv
  rw [← hxl]
  rw [← hn] at hl h0
  have hxI : ¬ (xl : Int) > 65536 := by omega
  have hk1 : ¬ k < 0 := by omega
  have hk2 : ¬ k > 4095 := by omega
  have HN := Lib.hid (And.intro hf (And.intro hn (And.intro hxl hv)))
  clear hf hn hxl hv h hk
  have H0 := Lib.hid h0
  clear h0
  go_enter Tryd.func44, Tryd.ntmps44
  go_wp2_with fail
  go_loopw [7, 8] (fun ov iv' wr => ∃ (i : Nat) (oa : Option Addr) (oc : Nat), i ≤ f ∧ iv' = .int .i64 (i : Nat) ∧ ov = .slice oa i oc ∧ Sat W wr (sep (osl 34 2 a n c cells) (sep ((rPairQ.rows 2).is cells L) (sep (osl 34 2 oa i oc (cells.take (i * 2))) (sep (blk q (.cells #[.slice a n c] 29 (0, 0))) (sep (kn I) A)))))) (fun _ iv' _ => f - (intOf iv').toNat)
  case atStart =>
    refine ⟨0, none, 0, by omega, rfl, rfl, ?_⟩
    have := H0.out.osl_nil 34 2
    rw [Nat.zero_mul, List.take_zero]
    simpa only [sep_comm, sep_lcomm, sep_assoc] using this
  case round =>
    obtain ⟨i, oa, oc, hi, rfl, rfl, hS⟩ := hrel
    have c0 : wr.cell? ⟨q, 0, none⟩ = some (.slice a n c) := hS.p3.cell 0
    by_cases hif : i < f
    · have hiL : i < L.length := by rw [← HN.out.2.1]; omega
      have hinI : (i : Int) < (n : Int) := by omega
      obtain ⟨g, b, d, rfl, g0, g1, u0, u1⟩ := qm_cells hS i hiL
      obtain ⟨xk, hxk⟩ : ∃ xk, xk = L[i].1 := ⟨_, rfl⟩
      obtain ⟨bl, hbl⟩ : ∃ bl, bl = L[i].2.length := ⟨_, rfl⟩
      rw [← hxk] at g0 u0
      rw [← hbl] at g1 u1
      have hlt : decide (xk < k) = true := decide_eq_true (by rw [hxk]; exact fndP_lt L k i hiL (by rw [← HN.out.1]; exact hif))
      have ht := take2 u0 u1
      have hz := hS.p2.osl_len
      have h1 := hS.alloc (.cells #[.int .i64 xk, .slice b bl d] 34)
      have hsrc : Src (wr.alloc (.cells #[.int .i64 xk, .slice b bl d] 34)) (some ⟨wr.heap.size, 0, none⟩) [.int .i64 xk, .slice b bl d] := (h1.osl_mk 1 1 2 [.int .i64 xk, .slice b bl d] rfl (Nat.le_refl _) (by unfold maxLen; omega) rfl rfl).osl_Src
      have h2 : Sat W (wr.alloc (.cells #[.int .i64 xk, .slice b bl d] 34)) (sep (osl 34 2 oa i oc (cells.take (i * 2))) (sep (osl 34 2 (some ⟨g, 0, none⟩) n c cells) (sep ((rPairQ.rows 2).is cells L) (sep (blk q (.cells #[.slice (some ⟨g, 0, none⟩) n c] 29 (0, 0))) (sep (kn I) A))))) := by
        have := h1.drop
        simpa only [sep_comm, sep_lcomm, sep_assoc] using this
      have HT := Lib.hid (And.intro ht hsrc)
      have H2 := Lib.hid h2
      clear hS h1 h2 ht hsrc hz u0 u1 hxk hbl hiL
      go_wp2_with (at_builtin; refine wpl_append_osl rfl (.tmp 38) (.tmp 46) 27 rfl 34 2 32 (.agg #[.int .i64 0, .slice none 0 0]) Tryd.underlying27 infoQPair rfl rfl H2.out rfl [.int .i64 xk, .slice b bl d] rfl (fun e => by cases e) HT.out.2 (by intro u hu; simp at hu; rcases hu with rfl | rfl <;> rfl) (by omega) (by unfold maxLen; omega) ?_)
      intro a5 c5 w7 h12
      have H12 := Lib.hid (show Sat W w7 (sep (osl 34 2 (some ⟨g, 0, none⟩) n c cells) (sep ((rPairQ.rows 2).is cells L) (sep (osl 34 2 a5 (i + 1) c5 (cells.take ((i + 1) * 2))) (sep (blk q (.cells #[.slice (some ⟨g, 0, none⟩) n c] 29 (0, 0))) (sep (kn I) A))))) by
        rw [HT.out.1]
        simpa only [sep_comm, sep_lcomm, sep_assoc] using h12)
      clear h12 H2
      go_wp2_with fail
      go_roundw
      case rel => exact ⟨i + 1, a5, c5, by omega, rfl, rfl, H12.out⟩
      case measure => simp only [intOf]; omega
    · obtain rfl : i = f := by omega
      have HS := Lib.hid hS
      obtain ⟨hr1, hr2, hr3⟩ := rel_src' HN.out.2.2.2
      have hb0 := hS.osl_nil 5 1
      have hvs := hr3 wr hS.p4.ext
      have hv0 : va = none → xl = 0 := fun e => by have := hr2.2.2 e; have := hr2.1; omega
      obtain ⟨m2, hm2⟩ : ∃ m2, m2 = if hasP L k = true then i + 1 else i := ⟨_, rfl⟩
      have hm2n : m2 ≤ n := by
        rw [hm2]
        split
        · rename_i hh
          unfold hasP at hh
          split at hh
          · rename_i h2; rw [← HN.out.1, ← HN.out.2.1] at h2; omega
          · cases hh
        · omega
      have HVS := Lib.hid (And.intro hvs (And.intro hv0 hr1))
      have HB0 := Lib.hid hb0
      have HM := Lib.hid hm2
      /- the loop's end: there is no more pair, or its key is not less -/
      have hend : (¬ i < n) ∨ (i < n ∧ ∃ g xk, a = some ⟨g, 0, none⟩ ∧ decide (xk < k) = false ∧ hasP L k = decide (xk = k) ∧ ∀ (w : World) (A : Assn), Sat W w (sep (osl 34 2 a n c cells) (sep ((rPairQ.rows 2).is cells L) A)) → w.cell? ⟨g, i * 2, none⟩ = some (.int .i64 xk)) := by
        by_cases hin : i < n
        · right
          have hiL : i < L.length := by rw [← HN.out.2.1]; exact hin
          obtain ⟨g, b, d, rfl, g0, g1, -, -⟩ := qm_cells hS i hiL
          refine ⟨hin, g, L[i].1, rfl, decide_eq_false ?_, ?_, ?_⟩
          · have := fndP_ge L k
            simp only [← HN.out.1] at this
            exact this hiL
          · unfold hasP
            simp only [← HN.out.1]
            rw [dif_pos hiL]
          · intro w A h
            obtain ⟨g', b', d', e, g0', -, -, -⟩ := qm_cells h i hiL
            cases e
            exact g0'
        · left; exact hin
      clear hS hb0 hvs hv0 hm2 hr1 hr2 hr3 hi hif
      have hcv : ∀ (K2 : World → Prop), True := fun _ => trivial
      clear hcv
      rcases hend with hend | ⟨hend, g, xk, rfl, hge, hhas, hcell⟩
      · have hendI : ¬ (i : Int) < (n : Int) := by omega
        have hhas : hasP L k = false := by
          unfold hasP
          rw [dif_neg (by rw [← HN.out.1, ← HN.out.2.1]; exact hend)]
        have hmi : m2 = i := by rw [HM.out, hhas]; rfl
        go_upto_region 10 with (fail)
        go_wp2_with (at_builtin; refine wpl_append_osl rfl (.tmp 52) (.tmp 53) 32 rfl 5 1 1 (.int .u8 0) Tryd.underlying32 infoU8c rfl rfl HB0.out rfl (x.map bv) (by rw [List.length_map, HN.out.2.2.1]; omega) HVS.out.2.1 HVS.out.1 (bv_one x) (by omega) (by unfold maxLen; omega) ?_)
        intro a4 c4 w4 h4
        obtain ⟨J, hIJ, hr4, h5⟩ := osl_learnQ (show Sat W w4 (sep (osl 5 1 a4 xl c4 (x.map bv)) (sep (kn I) (sep (osl 34 2 a n c cells) (sep ((rPairQ.rows 2).is cells L) (sep (osl 34 2 oa i oc (cells.take (i * 2))) (sep (blk q (.cells #[.slice a n c] 29 (0, 0))) A)))))) by simpa only [sep_comm, sep_lcomm, sep_assoc] using h4) HN.out.2.2.1
        have h6 := h5.alloc (.cells #[.int .i64 k, .slice a4 xl c4] 34)
        have hsrc : Src (w4.alloc (.cells #[.int .i64 k, .slice a4 xl c4] 34)) (some ⟨w4.heap.size, 0, none⟩) [.int .i64 k, .slice a4 xl c4] := (h6.osl_mk 1 1 2 [.int .i64 k, .slice a4 xl c4] rfl (Nat.le_refl _) (by unfold maxLen; omega) rfl rfl).osl_Src
        have h8 : Sat W (w4.alloc (.cells #[.int .i64 k, .slice a4 xl c4] 34)) (sep (osl 34 2 oa i oc (cells.take (i * 2))) (sep (osl 34 2 a n c cells) (sep ((rPairQ.rows 2).is cells L) (sep (blk q (.cells #[.slice a n c] 29 (0, 0))) (sep (kn J) A))))) := by
          have := h6.drop
          simpa only [sep_comm, sep_lcomm, sep_assoc] using this
        have HSRC := Lib.hid hsrc
        have HR4 := Lib.hid (And.intro hIJ hr4)
        have H8 := Lib.hid h8
        clear h4 h5 h6 h8 hsrc hIJ hr4 c0
        go_wp2_with (at_builtin; refine wpl_append_osl rfl (.tmp 50) (.tmp 56) 27 rfl 34 2 32 (.agg #[.int .i64 0, .slice none 0 0]) Tryd.underlying27 infoQPair rfl rfl H8.out rfl [.int .i64 k, .slice a4 xl c4] rfl (fun e => by cases e) HSRC.out (by intro u hu; simp at hu; rcases hu with rfl | rfl <;> rfl) (by omega) (by unfold maxLen; omega) ?_)
        intro a5 c5 w5 h9
        have c0 : w5.cell? ⟨q, 0, none⟩ = some (.slice a n c) := h9.p3.cell 0
        have H9 := Lib.hid h9
        clear h9 H8 HSRC
        have hm3 : i ≤ n := by rw [← hmi]; exact hm2n
        have hz := H9.out.p1.osl_len
        have hsl2 := run_slice_from (P := Tryd.prog) (t := 27) (E := 34) (k := 2) Tryd.underlying27 (by kernel_rfl) a n c (i) hm3
        have hsr := H9.out.p1.osl_Src.sub (c = i) ((i) * 2) (by intro e; have := hz.1; have := hz.2; omega)
        obtain ⟨a6, ha6⟩ : ∃ a6, a6 = subA a (c = i) ((i) * 2) := ⟨_, rfl⟩
        have ha6n : a6 = none → n - (i) = 0 := fun e => by have := (H9.out.p1.osl_none (subA_none (by rw [← ha6]; exact e))).1; omega
        rw [← ha6] at hsl2 hsr
        have HSR := Lib.hid (And.intro hsr (And.intro ha6n hz))
        have hone : ∀ u ∈ cells, u.oneCell' = true := H9.out.p2.rows_all _ rPairQ_one
        have HONE := Lib.hid hone
        clear hsr ha6n hz ha6 hone
        go_wp2_with (at_builtin; refine wpl_append_osl rfl (.tmp 80) (.tmp 86) 27 rfl 34 2 32 (.agg #[.int .i64 0, .slice none 0 0]) Tryd.underlying27 infoQPair rfl rfl H9.out rfl (cells.drop ((i) * 2)) (by rw [List.length_drop, HSR.out.2.2.1, Nat.sub_mul]) HSR.out.2.1 HSR.out.1 (fun u hu => HONE.out u (List.mem_of_mem_drop hu)) (by omega) (by unfold maxLen; omega) ?_)
        intro a7 c7 w7 h10
        have c0 : w7.cell? ⟨q, 0, none⟩ = some (.slice a n c) := h10.p3.cell 0
        have u0 : w7.frozen? ⟨q, 0, none⟩ = false := h10.p3.unfrozen 0
        have h11 := h10.p3.setCell 0 (.slice a7 (i + 1 + (n - (i))) c7)
        have H11 := Lib.hid h11
        clear h10 h11
        go_wp2_with fail
        go_ret
        refine ⟨rfl, ?_⟩
        have hse : setP L k x = L.take i ++ (k, x) :: L.drop (i) := by rw [setP, ← HN.out.1, ← HM.out, hmi]
        have hsl : i + 1 + (n - (i)) = (setP L k x).length := by
          rw [hse, List.length_append, List.length_cons, List.length_take, List.length_drop, ← HN.out.2.1]
          omega
        have e1 := (show Sat W (w7.setCell ⟨q, 0, none⟩ (.slice a7 (i + 1 + (n - (i))) c7)) (sep (osl 34 2 a n c cells) (sep ((rPairQ.rows 2).is cells L) (sep (kn J) (sep (blk q (.cells #[.slice a7 (i + 1 + (n - (i))) c7] 29 (0, 0))) (sep (osl 34 2 a7 (i + 1 + (n - (i))) c7 (cells.take (i * 2) ++ ([.int .i64 k, .slice a4 xl c4] ++ cells.drop ((i) * 2)))) A))))) by
          have := H11.out
          simpa only [sep_comm, sep_lcomm, sep_assoc, List.append_assoc, List.setIfInBounds_toArray, List.set_cons_zero, List.cons_append, List.nil_append] using this).forget_osl
        have e2 := rows_putQ (R := rPairQ) (x := (k, x)) (en := [.int .i64 k, .slice a4 xl c4]) e1 ⟨a4, c4, by dsimp only; rw [← HN.out.2.2.1], by dsimp only; rw [← HN.out.2.2.1]; exact HR4.out.2⟩ rfl i (i)
        rw [← hse] at e2
        have e3 := isQM_mk (q := q) (L := setP L k x) hsl (show Sat W (w7.setCell ⟨q, 0, none⟩ (.slice a7 (i + 1 + (n - (i))) c7)) (sep (blk q (.cells #[.slice a7 (i + 1 + (n - (i))) c7] 29 (0, 0))) (sep (osl 34 2 a7 (i + 1 + (n - (i))) c7 (cells.take (i * 2) ++ ([.int .i64 k, .slice a4 xl c4] ++ cells.drop ((i) * 2)))) (sep ((rPairQ.rows 2).is (cells.take (i * 2) ++ ([.int .i64 k, .slice a4 xl c4] ++ cells.drop ((i) * 2))) (setP L k x)) (sep (kn J) A)))) by simpa only [sep_comm, sep_lcomm, sep_assoc] using e2)
        have e4 := e3.p1.kn_mono HR4.out.1
        simpa only [sep_comm, sep_lcomm, sep_assoc] using e4
      · have hendI : (i : Int) < (n : Int) := by omega
        have g0 := hcell wr _ HS.out
        go_upto_region 10 with (fail)
        go_wp2_with (at_builtin; refine wpl_append_osl rfl (.tmp 52) (.tmp 53) 32 rfl 5 1 1 (.int .u8 0) Tryd.underlying32 infoU8c rfl rfl HB0.out rfl (x.map bv) (by rw [List.length_map, HN.out.2.2.1]; omega) HVS.out.2.1 HVS.out.1 (bv_one x) (by omega) (by unfold maxLen; omega) ?_)
        intro a4 c4 w4 h4
        obtain ⟨J, hIJ, hr4, h5⟩ := osl_learnQ (show Sat W w4 (sep (osl 5 1 a4 xl c4 (x.map bv)) (sep (kn I) (sep (osl 34 2 (some ⟨g, 0, none⟩) n c cells) (sep ((rPairQ.rows 2).is cells L) (sep (osl 34 2 oa i oc (cells.take (i * 2))) (sep (blk q (.cells #[.slice (some ⟨g, 0, none⟩) n c] 29 (0, 0))) A)))))) by simpa only [sep_comm, sep_lcomm, sep_assoc] using h4) HN.out.2.2.1
        have h6 := h5.alloc (.cells #[.int .i64 k, .slice a4 xl c4] 34)
        have hsrc : Src (w4.alloc (.cells #[.int .i64 k, .slice a4 xl c4] 34)) (some ⟨w4.heap.size, 0, none⟩) [.int .i64 k, .slice a4 xl c4] := (h6.osl_mk 1 1 2 [.int .i64 k, .slice a4 xl c4] rfl (Nat.le_refl _) (by unfold maxLen; omega) rfl rfl).osl_Src
        have h8 : Sat W (w4.alloc (.cells #[.int .i64 k, .slice a4 xl c4] 34)) (sep (osl 34 2 oa i oc (cells.take (i * 2))) (sep (osl 34 2 (some ⟨g, 0, none⟩) n c cells) (sep ((rPairQ.rows 2).is cells L) (sep (blk q (.cells #[.slice (some ⟨g, 0, none⟩) n c] 29 (0, 0))) (sep (kn J) A))))) := by
          have := h6.drop
          simpa only [sep_comm, sep_lcomm, sep_assoc] using this
        have HSRC := Lib.hid hsrc
        have HR4 := Lib.hid (And.intro hIJ hr4)
        have H8 := Lib.hid h8
        clear h4 h5 h6 h8 hsrc hIJ hr4 c0
        go_wp2_with (at_builtin; refine wpl_append_osl rfl (.tmp 50) (.tmp 56) 27 rfl 34 2 32 (.agg #[.int .i64 0, .slice none 0 0]) Tryd.underlying27 infoQPair rfl rfl H8.out rfl [.int .i64 k, .slice a4 xl c4] rfl (fun e => by cases e) HSRC.out (by intro u hu; simp at hu; rcases hu with rfl | rfl <;> rfl) (by omega) (by unfold maxLen; omega) ?_)
        intro a5 c5 w5 h9
        have c0 : w5.cell? ⟨q, 0, none⟩ = some (.slice (some ⟨g, 0, none⟩) n c) := h9.p3.cell 0
        have H9 := Lib.hid h9
        clear h9 H8 HSRC
        have g0' := hcell w5 _ H9.out.drop
        clear g0
        by_cases hxk : xk = k
        · have hkB : (xk == k) = true := by simp [hxk]
          have hmi : m2 = i + 1 := by rw [HM.out, hhas, decide_eq_true hxk]; rfl
          have hm3 : i + 1 ≤ n := by rw [← hmi]; exact hm2n
          have hz := H9.out.p1.osl_len
          have hsl2 := run_slice_from (P := Tryd.prog) (t := 27) (E := 34) (k := 2) Tryd.underlying27 (by kernel_rfl) (some ⟨g, 0, none⟩) n c (i + 1) hm3
          rw [show ((i + 1 : Nat) : Int) = (i : Int) + 1 by omega] at hsl2
          have hsr := H9.out.p1.osl_Src.sub (c = i + 1) ((i + 1) * 2) (by intro e; have := hz.1; have := hz.2; omega)
          obtain ⟨a6, ha6⟩ : ∃ a6, a6 = subA (some ⟨g, 0, none⟩) (c = i + 1) ((i + 1) * 2) := ⟨_, rfl⟩
          have ha6n : a6 = none → n - (i + 1) = 0 := fun e => by have := (H9.out.p1.osl_none (subA_none (by rw [← ha6]; exact e))).1; omega
          rw [← ha6] at hsl2 hsr
          have HSR := Lib.hid (And.intro hsr (And.intro ha6n hz))
          have hone : ∀ u ∈ cells, u.oneCell' = true := H9.out.p2.rows_all _ rPairQ_one
          have HONE := Lib.hid hone
          clear hsr ha6n hz ha6 hone
          go_wp2_with (at_builtin; refine wpl_append_osl rfl (.tmp 80) (.tmp 86) 27 rfl 34 2 32 (.agg #[.int .i64 0, .slice none 0 0]) Tryd.underlying27 infoQPair rfl rfl H9.out rfl (cells.drop ((i + 1) * 2)) (by rw [List.length_drop, HSR.out.2.2.1, Nat.sub_mul]) HSR.out.2.1 HSR.out.1 (fun u hu => HONE.out u (List.mem_of_mem_drop hu)) (by omega) (by unfold maxLen; omega) ?_)
          intro a7 c7 w7 h10
          have c0 : w7.cell? ⟨q, 0, none⟩ = some (.slice (some ⟨g, 0, none⟩) n c) := h10.p3.cell 0
          have u0 : w7.frozen? ⟨q, 0, none⟩ = false := h10.p3.unfrozen 0
          have h11 := h10.p3.setCell 0 (.slice a7 (n) c7)
          have H11 := Lib.hid h11
          clear h10 h11
          go_wp2_with fail
          go_ret
          refine ⟨rfl, ?_⟩
          have hse : setP L k x = L.take i ++ (k, x) :: L.drop (i + 1) := by rw [setP, ← HN.out.1, ← HM.out, hmi]
          have hsl : n = (setP L k x).length := by
            rw [hse, List.length_append, List.length_cons, List.length_take, List.length_drop, ← HN.out.2.1]
            omega
          have e1 := (show Sat W (w7.setCell ⟨q, 0, none⟩ (.slice a7 (n) c7)) (sep (osl 34 2 (some ⟨g, 0, none⟩) n c cells) (sep ((rPairQ.rows 2).is cells L) (sep (kn J) (sep (blk q (.cells #[.slice a7 (n) c7] 29 (0, 0))) (sep (osl 34 2 a7 (n) c7 (cells.take (i * 2) ++ ([.int .i64 k, .slice a4 xl c4] ++ cells.drop ((i + 1) * 2)))) A))))) by
            have := H11.out
            simpa only [sep_comm, sep_lcomm, sep_assoc, List.append_assoc, List.setIfInBounds_toArray, List.set_cons_zero, List.cons_append, List.nil_append] using this).forget_osl
          have e2 := rows_putQ (R := rPairQ) (x := (k, x)) (en := [.int .i64 k, .slice a4 xl c4]) e1 ⟨a4, c4, by dsimp only; rw [← HN.out.2.2.1], by dsimp only; rw [← HN.out.2.2.1]; exact HR4.out.2⟩ rfl i (i + 1)
          rw [← hse] at e2
          have e3 := isQM_mk (q := q) (L := setP L k x) hsl (show Sat W (w7.setCell ⟨q, 0, none⟩ (.slice a7 (n) c7)) (sep (blk q (.cells #[.slice a7 (n) c7] 29 (0, 0))) (sep (osl 34 2 a7 (n) c7 (cells.take (i * 2) ++ ([.int .i64 k, .slice a4 xl c4] ++ cells.drop ((i + 1) * 2)))) (sep ((rPairQ.rows 2).is (cells.take (i * 2) ++ ([.int .i64 k, .slice a4 xl c4] ++ cells.drop ((i + 1) * 2))) (setP L k x)) (sep (kn J) A)))) by simpa only [sep_comm, sep_lcomm, sep_assoc] using e2)
          have e4 := e3.p1.kn_mono HR4.out.1
          simpa only [sep_comm, sep_lcomm, sep_assoc] using e4
        · have hkB : (xk == k) = false := by simp [hxk]
          have hmi : m2 = i := by rw [HM.out, hhas, decide_eq_false hxk]; rfl
          have hm3 : i ≤ n := by rw [← hmi]; exact hm2n
          have hz := H9.out.p1.osl_len
          have hsl2 := run_slice_from (P := Tryd.prog) (t := 27) (E := 34) (k := 2) Tryd.underlying27 (by kernel_rfl) (some ⟨g, 0, none⟩) n c (i) hm3
          have hsr := H9.out.p1.osl_Src.sub (c = i) ((i) * 2) (by intro e; have := hz.1; have := hz.2; omega)
          obtain ⟨a6, ha6⟩ : ∃ a6, a6 = subA (some ⟨g, 0, none⟩) (c = i) ((i) * 2) := ⟨_, rfl⟩
          have ha6n : a6 = none → n - (i) = 0 := fun e => by have := (H9.out.p1.osl_none (subA_none (by rw [← ha6]; exact e))).1; omega
          rw [← ha6] at hsl2 hsr
          have HSR := Lib.hid (And.intro hsr (And.intro ha6n hz))
          have hone : ∀ u ∈ cells, u.oneCell' = true := H9.out.p2.rows_all _ rPairQ_one
          have HONE := Lib.hid hone
          clear hsr ha6n hz ha6 hone
          go_wp2_with (at_builtin; refine wpl_append_osl rfl (.tmp 80) (.tmp 86) 27 rfl 34 2 32 (.agg #[.int .i64 0, .slice none 0 0]) Tryd.underlying27 infoQPair rfl rfl H9.out rfl (cells.drop ((i) * 2)) (by rw [List.length_drop, HSR.out.2.2.1, Nat.sub_mul]) HSR.out.2.1 HSR.out.1 (fun u hu => HONE.out u (List.mem_of_mem_drop hu)) (by omega) (by unfold maxLen; omega) ?_)
          intro a7 c7 w7 h10
          have c0 : w7.cell? ⟨q, 0, none⟩ = some (.slice (some ⟨g, 0, none⟩) n c) := h10.p3.cell 0
          have u0 : w7.frozen? ⟨q, 0, none⟩ = false := h10.p3.unfrozen 0
          have h11 := h10.p3.setCell 0 (.slice a7 (i + 1 + (n - (i))) c7)
          have H11 := Lib.hid h11
          clear h10 h11
          go_wp2_with fail
          go_ret
          refine ⟨rfl, ?_⟩
          have hse : setP L k x = L.take i ++ (k, x) :: L.drop (i) := by rw [setP, ← HN.out.1, ← HM.out, hmi]
          have hsl : i + 1 + (n - (i)) = (setP L k x).length := by
            rw [hse, List.length_append, List.length_cons, List.length_take, List.length_drop, ← HN.out.2.1]
            omega
          have e1 := (show Sat W (w7.setCell ⟨q, 0, none⟩ (.slice a7 (i + 1 + (n - (i))) c7)) (sep (osl 34 2 (some ⟨g, 0, none⟩) n c cells) (sep ((rPairQ.rows 2).is cells L) (sep (kn J) (sep (blk q (.cells #[.slice a7 (i + 1 + (n - (i))) c7] 29 (0, 0))) (sep (osl 34 2 a7 (i + 1 + (n - (i))) c7 (cells.take (i * 2) ++ ([.int .i64 k, .slice a4 xl c4] ++ cells.drop ((i) * 2)))) A))))) by
            have := H11.out
            simpa only [sep_comm, sep_lcomm, sep_assoc, List.append_assoc, List.setIfInBounds_toArray, List.set_cons_zero, List.cons_append, List.nil_append] using this).forget_osl
          have e2 := rows_putQ (R := rPairQ) (x := (k, x)) (en := [.int .i64 k, .slice a4 xl c4]) e1 ⟨a4, c4, by dsimp only; rw [← HN.out.2.2.1], by dsimp only; rw [← HN.out.2.2.1]; exact HR4.out.2⟩ rfl i (i)
          rw [← hse] at e2
          have e3 := isQM_mk (q := q) (L := setP L k x) hsl (show Sat W (w7.setCell ⟨q, 0, none⟩ (.slice a7 (i + 1 + (n - (i))) c7)) (sep (blk q (.cells #[.slice a7 (i + 1 + (n - (i))) c7] 29 (0, 0))) (sep (osl 34 2 a7 (i + 1 + (n - (i))) c7 (cells.take (i * 2) ++ ([.int .i64 k, .slice a4 xl c4] ++ cells.drop ((i) * 2)))) (sep ((rPairQ.rows 2).is (cells.take (i * 2) ++ ([.int .i64 k, .slice a4 xl c4] ++ cells.drop ((i) * 2))) (setP L k x)) (sep (kn J) A)))) by simpa only [sep_comm, sep_lcomm, sep_assoc] using e2)
          have e4 := e3.p1.kn_mono HR4.out.1
          simpa only [sep_comm, sep_lcomm, sep_assoc] using e4
end Go.Proofs.YtcmjbjlliehdiaaDoor
