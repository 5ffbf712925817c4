/- Package acts: Sort (slices.Clone, SortStableFunc) of 1 to 39 acts. -/
import Derived.Test.YtodipneapffjdaaGreatDoorGActsSort28
import Derived.Test.YtodipneapffjdaaGreatDoorGActsSort4
import Derived.Lib.SliceRun
import Derived.Deep.CutBlock
import Derived.Deep.WholeRow
namespace Go.Proofs.YtodipneapffjdaaGreatDoor
open Go.RowKit PA
theorem infoAct : (Tryz.prog.info? 37).map (fun i => (i.zero, i.size, i.bytes)) = some (some (.agg Ac.zero.cells.toArray), 19, 248) := by kernel_rfl
theorem cloneActs_spec {W w : World} {A : Assn} {I : Mem} (b : Addr) (n c : Nat) (xs : List Ac) (hn : xs.length = n) (h40 : n ≤ 65536) (hw : Swf (some b) n c) (hc : cellsAt (some b) (acs xs) I) (h : Sat W w (sep (kn I) A)) :
    Calls Tryz.prog 14 #[.slice (some b) n c] w fun e w' => ∃ a' c', e = .returned (.slice a' n c') ∧ Sat W w' (sep (osl 37 19 a' n c' (acs xs)) (sep (kn I) A)) := by
  obtain ⟨hw1, hw2, hw3⟩ := hw
  have hq := fun w a n c => Lib.run_eql_slice_nil (P := Tryz.prog) w 23 37 a n c 0 0 Tryz.underlying23
  have hS := (h.alloc (.cells #[] 37)).osl_mk 0 0 19 [] rfl (by omega) (by unfold maxLen; omega) rfl rfl
  have hsrc := src_ext hc h.ext b rfl
  have hc2 := Lib.hid (old_src hsrc (.cells #[] 37))
  have hl : (acs xs).length = n * 19 := by rw [acs_len, hn]
  have h1 := acs_one xs
  obtain ⟨vs, hvs⟩ : ∃ vs, vs = acs xs := ⟨_, rfl⟩
  rw [← hvs] at hc2 hl h1 ⊢
  have HW2 := Lib.hid hw2
  have HL := Lib.hid hl
  have H1 := Lib.hid h1
  have h40I : (n : Int) ≤ 65536 := by omega
  clear hsrc hw1 hw2 hw3 hc hvs hl h1 h hn
  go_enter Tryz.func14, Tryz.ntmps14
  go_wp2_with (at_builtin; refine wpl_append_osl rfl _ _ 23 rfl 37 19 248 _ Tryz.underlying23 infoAct rfl rfl hS rfl vs HL.out (by simp) (by intro b' hb; cases hb; exact hc2.out) H1.out (by omega) (by unfold maxLen; omega) ?_)
  intro a' c' w' hS'
  go_wp2
  go_ret
  refine ⟨a', c', ?_, ?_⟩
  · simp
  · simpa using hS'
theorem osl_arow {W w : World} {A : Assn} {a : Option Addr} {n c : Nat} {xs : List Ac} (hn : xs.length = n) (h0 : 0 < n) (h : Sat W w (sep (osl 37 19 a n c (acs xs)) A)) :
    ∃ g tl, a = some ⟨g, 0, none⟩ ∧ n ≤ c ∧ c ≤ maxLen ∧ (n * 19 + tl.length = c * 19) ∧ Sat W w (sep (arow g n (fun i => xs.getD i default) tl) A) := by
  rcases h.osl_cases with ⟨-, rfl, -, -, -⟩ | ⟨g, cur, rfl, h1, h2, h3, h4, h5, h6⟩
  · omega
  · have hle : n * 19 ≤ c * 19 := Nat.mul_le_mul_right _ h2
    refine ⟨g, cur.toList.drop (n * 19), rfl, h2, h3, by rw [List.length_drop, Array.length_toList, h4]; omega, ?_⟩
    unfold arow
    subst hn
    rw [list_of_fn, ← h5, List.take_append_drop, Array.toArray_toList]
    exact h6
theorem arow_osl {W w : World} {A : Assn} {g n c : Nat} {f : Nat → Ac} {tl : List Value} (h2 : n ≤ c) (h3 : c ≤ maxLen) (h4 : n * 19 + tl.length = c * 19) (h : Sat W w (sep (arow g n f tl) A)) :
    Sat W w (sep (osl 37 19 (some ⟨g, 0, none⟩) n c (acs ((List.range n).map f))) A) := by
  have hl : (acs ((List.range n).map f)).length = n * 19 := by rw [acs_len]; simp
  refine h.osl_mk n c 19 _ hl h2 h3 (by simp [hl]; omega) ?_
  show (acs ((List.range n).map f) ++ tl).take (n * 19) = _
  rw [← hl, List.take_left]
set_option maxHeartbeats 1000000 in
theorem sort_spec {W w : World} {A A0 : Assn} {D : Ac → Ac → Prop} {c : Ac → Ac → Int} {I : Mem} (hT : Total c) (hC : CmpOK W A0 D c) (hsy : ∀ x y, D x y → D y x) (b : Addr) (n cp : Nat) (xs : List Ac) (hn : xs.length = n) (hD : xs.Pairwise D) (h0 : 0 < n) (h40 : n < 40)
    (hw : Swf (some b) n cp) (hc : cellsAt (some b) (acs xs) I) (h : Sat W w (sep (kn I) (sep A0 A))) :
    Calls Tryz.prog 6 #[.slice (some b) n cp] w fun e w' => ∃ ys g c' J, e = .returned (.slice (some ⟨g, 0, none⟩) n c') ∧ ys.Perm xs ∧ Asc c ys ∧ Mem.le I J ∧ n ≤ c' ∧ c' ≤ maxLen ∧ cellsAt (some ⟨g, 0, none⟩) (acs ys) J ∧ Sat W w' (sep (kn J) (sep A0 A)) := by
  have hcl := Lib.hid (cloneActs_spec b n cp xs hn (by omega) hw hc h)
  have HN := Lib.hid hn
  have HD : Hid (DF D n fun i => xs.getD i default) := Lib.hid (by have := DF.of_list hsy hD; rw [hn] at this; exact this)
  have HTC := Lib.hid (And.intro hT hC)
  clear hn hD hsy hc hw hT hC h
  go_enter Tryz.func6, Tryz.ntmps6
  go_wp2_with fail
  refine hcl.out.mono ?_
  rintro e w2 ⟨a', c', rfl, h2⟩
  obtain ⟨g, tl, rfl, hc1, hc2, hc3, h3⟩ := osl_arow HN.out h0 h2
  have hst := stable_spec (A := sep (kn I) A) HTC.out.1 HTC.out.2 HD.out h40 c' (show Sat W w2 (sep (arow g n (fun i => xs.getD i default) tl) (sep A0 (sep (kn I) A))) by simpa only [sep_comm, sep_lcomm, sep_assoc] using h3)
  have HST := Lib.hid hst
  have HCC := Lib.hid (And.intro hc1 (And.intro hc2 hc3))
  clear hcl h2 h3 hst hc1 hc2 hc3
  go_wp2_with (first | (go_at_call 28; refine HST.out.mono ?_) | go_in)
  rintro e w4 ⟨rfl, f', r1, r2, r3⟩
  have h5 := (arow_osl HCC.out.1 HCC.out.2.1 HCC.out.2.2 r3).osl_settle
  have hp := r1.perm
  have hl := r2.list
  have HPL := Lib.hid (And.intro hp hl)
  have HF : Hid (Sat W w4 (sep (rsl (some ⟨g, 0, none⟩) (acs ((List.range n).map f'))) (sep (kn I) (sep A0 A)))) := Lib.hid (by simpa only [sep_comm, sep_lcomm, sep_assoc] using h5)
  clear r1 r2 r3 h5 hp hl HST
  go_wp2
  first
  | (go_end0; go_wp2; go_ret)
  | go_ret
  obtain ⟨J, hle, hJ, hS⟩ := HF.out.learn
  refine ⟨_, g, c', J, rfl, ?_, HPL.out.2, hle, HCC.out.1, HCC.out.2.1, hJ, hS⟩
  refine HPL.out.1.trans ?_
  have := HN.out
  subst this
  rw [list_of_fn]
theorem cmpK_total : Total cmpK := ⟨fun _ _ _ => cmpK_trans, cmpK_flip⟩
theorem cmpK_ok (W : World) : CmpOK W emp KeyNe cmpK := fun x y w B hne h => by
  rw [emp_sep] at h
  refine (compareK_spec x y hne h).mono ?_
  rintro e w' ⟨rfl, h2⟩
  exact ⟨rfl, by rw [emp_sep]; exact h2⟩
end Go.Proofs.YtodipneapffjdaaGreatDoor
/- Package title: filed (where it finds the filing), its closure, slices.IndexFunc; ofFile. -/
namespace Go.Proofs.YtodipneapffjdaaGreatDoor
open Go.RowKit PA
attribute [local go_sem ↓] sizeAct
theorem act_rd {W w : World} {A : Assn} {q : Nat} {x : Ac} {t : TypeId} {fr : Nat × Nat} (h : Sat W w (sep (blk q (.cells x.cells.toArray t fr)) A)) : Sem.run Tryz.prog (loadCellsFrom ⟨q, 0, none⟩ 0 kA #[]) w = .ok x.cells.toArray w := by
  have hl : x.cells.length = kA := rfl
  have := run_loadCells_list (P := Tryz.prog) w ⟨q, 0, none⟩ x.cells (fun j v hj => by
    have e : (⟨q, 0, none⟩ : Addr).add j = ⟨q, j, none⟩ := by unfold Addr.add; split <;> simp_all
    rw [e, Sat.cell h]
    simpa using hj)
  rw [hl] at this
  exact this
end Go.Proofs.YtodipneapffjdaaGreatDoor
/- An act stored and loaded whole, as one operation of the walk. -/
namespace Go.Proofs.YtodipneapffjdaaGreatDoor
open Go.RowKit PA
def stAct (a v : Value) : Sem Unit := Instr.storeAt 37 a v
def ldAct (a : Value) : Sem Value := Instr.loadAt 37 a
theorem storeAt_act (a v : Value) : Instr.storeAt 37 a v = stAct a v := rfl
theorem loadAt_act (a : Value) : Instr.loadAt 37 a = ldAct a := rfl
theorem isAggAct (w : World) : (Go.isAgg 37).run Tryz.prog w = .ok true w := by kernel_rfl
theorem run_stAct {w : World} {q : Nat} {cs : Array Value} (h : w.heap[q]? = some (.cells cs 37 (0, 0))) (hs : cs.size = 19) (x : Ac) :
    Sem.run Tryz.prog (stAct (.pointer (some ⟨q, 0, none⟩)) (.agg x.cells.toArray)) w = .ok () (w.setRow q x.cells.toArray) := by
  have hst := run_storeCells_at Tryz.prog q 0 37 x.cells 0 cs w h (by show 0 + 0 + 19 ≤ _; omega) x.one
  have e : cs.toList.take (0 + 0) ++ x.cells ++ cs.toList.drop (0 + 0 + x.cells.length) = x.cells := by
    have hd : cs.toList.drop (0 + 0 + x.cells.length) = [] := List.drop_eq_nil_of_le (by rw [Array.length_toList, hs]; show 19 ≤ 0 + 0 + 19; omega)
    rw [hd, List.append_nil]; rfl
  rw [e] at hst
  have hk : ¬ (Value.agg x.cells.toArray).cells.size ≠ kA := by
    intro hc; exact hc rfl
  show Sem.run Tryz.prog (storeVar 37 ⟨q, 0, none⟩ (.agg x.cells.toArray)) w = _
  unfold storeVar
  rw [Sem.run_bind, sizeAct]
  show Sem.run Tryz.prog (if (Value.agg x.cells.toArray).cells.size ≠ kA then _ else _) w = _
  rw [if_neg hk]
  exact hst
theorem ldgen {P : Program} (B : Sem Bool) (N : Sem Nat) (L : Nat → Sem (Array Value)) (e : Sem Value) {n : Nat} {c : Array Value} {w : World} (hB : B.run P w = .ok true w) (hN : N.run P w = .ok n w) (hL : (L n).run P w = .ok c w) :
    Sem.run P (do if ← B then pure (.agg (← L (← N))) else e) w = .ok (.agg c) w := by
  rw [Sem.run_bind, hB]
  show Sem.run P (do pure (Value.agg (← L (← N)))) w = _
  rw [Sem.run_bind, hN]
  show Sem.run P (do pure (Value.agg (← L n))) w = _
  rw [Sem.run_bind, hL]
  rfl
theorem run_ldAct {w : World} {q : Nat} {x : Ac} (h : ∀ i v, x.cells[i]? = some v → w.cell? ⟨q, i, none⟩ = some v) :
    Sem.run Tryz.prog (ldAct (.pointer (some ⟨q, 0, none⟩))) w = .ok (.agg x.cells.toArray) w := by
  have hl : x.cells.length = kA := rfl
  have := run_loadCells_list (P := Tryz.prog) w ⟨q, 0, none⟩ x.cells (fun j v hj => by
    have e : (⟨q, 0, none⟩ : Addr).add j = ⟨q, j, none⟩ := by unfold Addr.add; split <;> simp_all
    rw [e]
    exact h j v hj)
  rw [hl] at this
  show Sem.run Tryz.prog (loadVar 37 ⟨q, 0, none⟩) w = _
  unfold loadVar
  exact ldgen (Go.isAgg 37) (Go.sizeOf 37) (loadCells ⟨q, 0, none⟩) _ (isAggAct w) (sizeAct w) this
theorem st_lit (w : World) (c0 c1 c2 c3 c4 c5 c6 c7 c8 c9 c10 c11 c12 c13 c14 c15 c16 c17 c18 : Value) (k d n f o p q u m sn sd fo fn : Int) :
    Sem.run Tryz.prog (stAct (.pointer (some ⟨w.heap.size, 0, none⟩)) (.agg #[.int .i64 k, .int .i64 d, .int .i64 n, .int .i64 f, .int .i64 o, .int .i64 p, .int .i64 q, .int .i64 u, .int .i64 m, .int .i64 sn, .int .i64 sd, .slice none 0 0, .slice none 0 0, .slice none 0 0, .slice none 0 0, .int .i64 fo, .int .i64 fn, .slice none 0 0, .slice none 0 0])) (w.alloc (.cells #[c0, c1, c2, c3, c4, c5, c6, c7, c8, c9, c10, c11, c12, c13, c14, c15, c16, c17, c18] 37)) = .ok () (w.alloc (.cells #[.int .i64 k, .int .i64 d, .int .i64 n, .int .i64 f, .int .i64 o, .int .i64 p, .int .i64 q, .int .i64 u, .int .i64 m, .int .i64 sn, .int .i64 sd, .slice none 0 0, .slice none 0 0, .slice none 0 0, .slice none 0 0, .int .i64 fo, .int .i64 fn, .slice none 0 0, .slice none 0 0] 37)) := by
  have h : (w.alloc (.cells #[c0, c1, c2, c3, c4, c5, c6, c7, c8, c9, c10, c11, c12, c13, c14, c15, c16, c17, c18] 37)).heap[w.heap.size]? = some (.cells #[c0, c1, c2, c3, c4, c5, c6, c7, c8, c9, c10, c11, c12, c13, c14, c15, c16, c17, c18] 37 (0, 0)) := heap_alloc_last _ _
  have := run_stAct h rfl ⟨k, d, n, f, o, p, q, u, m, sn, sd, Sv.none, Sv.none, Sv.none, Sv.none, fo, fn, Sv.none, Sv.none⟩
  rw [show (w.alloc (.cells #[.int .i64 k, .int .i64 d, .int .i64 n, .int .i64 f, .int .i64 o, .int .i64 p, .int .i64 q, .int .i64 u, .int .i64 m, .int .i64 sn, .int .i64 sd, .slice none 0 0, .slice none 0 0, .slice none 0 0, .slice none 0 0, .int .i64 fo, .int .i64 fn, .slice none 0 0, .slice none 0 0] 37)) = (w.alloc (.cells #[c0, c1, c2, c3, c4, c5, c6, c7, c8, c9, c10, c11, c12, c13, c14, c15, c16, c17, c18] 37)).setRow w.heap.size #[.int .i64 k, .int .i64 d, .int .i64 n, .int .i64 f, .int .i64 o, .int .i64 p, .int .i64 q, .int .i64 u, .int .i64 m, .int .i64 sn, .int .i64 sd, .slice none 0 0, .slice none 0 0, .slice none 0 0, .slice none 0 0, .int .i64 fo, .int .i64 fn, .slice none 0 0, .slice none 0 0] from (World.setRow_alloc_new w _ _ 37).symm]
  exact this
theorem act_fr {W w : World} {A : Assn} {q : Nat} {x : Ac} (h : Sat W w (sep (blk q (.cells x.cells.toArray 37 (0, 0))) A)) (i : Nat) (v : Value) (hv : x.cells[i]? = some v) : w.cell? ⟨q, i, none⟩ = some v ∧ w.frozen? ⟨q, i, none⟩ = false :=
  ⟨by rw [h.cell i]; simpa using hv, h.unfrozen i⟩
theorem act_ld {W w : World} {A : Assn} {q : Nat} {x : Ac} (h : Sat W w (sep (blk q (.cells x.cells.toArray 37 (0, 0))) A)) :
    Sem.run Tryz.prog (ldAct (.pointer (some ⟨q, 0, none⟩))) w = .ok (.agg #[.int .i64 x.k, .int .i64 x.d, .int .i64 x.n, .int .i64 x.f, .int .i64 x.o, .int .i64 x.p, .int .i64 x.q, .int .i64 x.u, .int .i64 x.m, .int .i64 x.sn, .int .i64 x.sd, .slice x.td.a x.td.n x.td.c, .slice x.tc.a x.tc.n x.tc.c, .slice x.cl.a x.cl.n x.cl.c, .slice x.ea.a x.ea.n x.ea.c, .int .i64 x.fo, .int .i64 x.fn, .slice x.fi.a x.fi.n x.fi.c, .slice x.fk.a x.fk.n x.fk.c]) w :=
  run_ldAct fun i v hv => (act_fr h i v hv).1
end Go.Proofs.YtodipneapffjdaaGreatDoor
