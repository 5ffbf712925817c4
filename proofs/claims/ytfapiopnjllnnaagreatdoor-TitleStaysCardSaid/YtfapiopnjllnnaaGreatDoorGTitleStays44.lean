/- An act stored and loaded whole, as one operation of the walk. -/
import Derived.Test.YtfapiopnjllnnaaGreatDoorGTitleStays43
import Derived.Deep.CutBlock
import Derived.Deep.WholeRow
import Derived.Test.YtfapiopnjllnnaaGreatDoorSl
import Derived.Test.YtfapiopnjllnnaaGreatDoorTr
namespace Go.Proofs.YtfapiopnjllnnaaGreatDoor
open Go.RowKit PA
def stAct (a v : Value) : Sem Unit := Instr.storeAt 57 a v
def ldAct (a : Value) : Sem Value := Instr.loadAt 57 a
theorem storeAt_act (a v : Value) : Instr.storeAt 57 a v = stAct a v := rfl
theorem loadAt_act (a : Value) : Instr.loadAt 57 a = ldAct a := rfl
theorem isAggAct (w : World) : (Go.isAgg 57).run Tryz.prog w = .ok true w := by kernel_rfl
theorem run_stAct {w : World} {q : Nat} {cs : Array Value} (h : w.heap[q]? = some (.cells cs 57 (0, 0))) (hs : cs.size = 19) (x : Ac) :
    Sem.run Tryz.prog (stAct (.pointer (some ⟨q, 0, none⟩)) (.agg x.cells.toArray)) w = .ok () (w.setRow q x.cells.toArray) := by
  have hst := run_storeCells_at Tryz.prog q 0 57 x.cells 0 cs w h (by show 0 + 0 + 19 ≤ _; omega) x.one
  have e : cs.toList.take (0 + 0) ++ x.cells ++ cs.toList.drop (0 + 0 + x.cells.length) = x.cells := by
    have hd : cs.toList.drop (0 + 0 + x.cells.length) = [] := List.drop_eq_nil_of_le (by rw [Array.length_toList, hs]; show 19 ≤ 0 + 0 + 19; omega)
    rw [hd, List.append_nil]; rfl
  rw [e] at hst
  have hk : ¬ (Value.agg x.cells.toArray).cells.size ≠ kA := by
    intro hc; exact hc rfl
  show Sem.run Tryz.prog (storeVar 57 ⟨q, 0, none⟩ (.agg x.cells.toArray)) w = _
  unfold storeVar
  rw [Sem.run_bind, sizeAct]
  show Sem.run Tryz.prog (if (Value.agg x.cells.toArray).cells.size ≠ kA then _ else _) w = _
  rw [if_neg hk]
  exact hst
theorem ldgen {P : Program} (B : Sem Bool) (N : Sem Nat) (L : Nat → Sem (Array Value)) (e : Sem Value) {n : Nat} {c : Array Value} {w : World} (hB : B.run P w = .ok true w) (hN : N.run P w = .ok n w) (hL : (L n).run P w = .ok c w) :
    Sem.run P (do if ← B then pure (.agg (← L (← N))) else e) w = .ok (.agg c) w := by
  rw [Sem.run_bind, hB]
  show Sem.run P (do pure (Value.agg (← L (← N)))) w = _
  rw [Sem.run_bind, hN]
  show Sem.run P (do pure (Value.agg (← L n))) w = _
  rw [Sem.run_bind, hL]
  rfl
theorem run_ldAct {w : World} {q : Nat} {x : Ac} (h : ∀ i v, x.cells[i]? = some v → w.cell? ⟨q, i, none⟩ = some v) :
    Sem.run Tryz.prog (ldAct (.pointer (some ⟨q, 0, none⟩))) w = .ok (.agg x.cells.toArray) w := by
  have hl : x.cells.length = kA := rfl
  have := run_loadCells_list (P := Tryz.prog) w ⟨q, 0, none⟩ x.cells (fun j v hj => by
    have e : (⟨q, 0, none⟩ : Addr).add j = ⟨q, j, none⟩ := by unfold Addr.add; split <;> simp_all
    rw [e]
    exact h j v hj)
  rw [hl] at this
  show Sem.run Tryz.prog (loadVar 57 ⟨q, 0, none⟩) w = _
  unfold loadVar
  exact ldgen (Go.isAgg 57) (Go.sizeOf 57) (loadCells ⟨q, 0, none⟩) _ (isAggAct w) (sizeAct w) this
theorem st_lit (w : World) (c0 c1 c2 c3 c4 c5 c6 c7 c8 c9 c10 c11 c12 c13 c14 c15 c16 c17 c18 : Value) (k d n f o p q u m sn sd fo fn : Int) :
    Sem.run Tryz.prog (stAct (.pointer (some ⟨w.heap.size, 0, none⟩)) (.agg #[.int .i64 k, .int .i64 d, .int .i64 n, .int .i64 f, .int .i64 o, .int .i64 p, .int .i64 q, .int .i64 u, .int .i64 m, .int .i64 sn, .int .i64 sd, .slice none 0 0, .slice none 0 0, .slice none 0 0, .slice none 0 0, .int .i64 fo, .int .i64 fn, .slice none 0 0, .slice none 0 0])) (w.alloc (.cells #[c0, c1, c2, c3, c4, c5, c6, c7, c8, c9, c10, c11, c12, c13, c14, c15, c16, c17, c18] 57)) = .ok () (w.alloc (.cells #[.int .i64 k, .int .i64 d, .int .i64 n, .int .i64 f, .int .i64 o, .int .i64 p, .int .i64 q, .int .i64 u, .int .i64 m, .int .i64 sn, .int .i64 sd, .slice none 0 0, .slice none 0 0, .slice none 0 0, .slice none 0 0, .int .i64 fo, .int .i64 fn, .slice none 0 0, .slice none 0 0] 57)) := by
  have h : (w.alloc (.cells #[c0, c1, c2, c3, c4, c5, c6, c7, c8, c9, c10, c11, c12, c13, c14, c15, c16, c17, c18] 57)).heap[w.heap.size]? = some (.cells #[c0, c1, c2, c3, c4, c5, c6, c7, c8, c9, c10, c11, c12, c13, c14, c15, c16, c17, c18] 57 (0, 0)) := heap_alloc_last _ _
  have := run_stAct h rfl ⟨k, d, n, f, o, p, q, u, m, sn, sd, Sv.none, Sv.none, Sv.none, Sv.none, fo, fn, Sv.none, Sv.none⟩
  rw [show (w.alloc (.cells #[.int .i64 k, .int .i64 d, .int .i64 n, .int .i64 f, .int .i64 o, .int .i64 p, .int .i64 q, .int .i64 u, .int .i64 m, .int .i64 sn, .int .i64 sd, .slice none 0 0, .slice none 0 0, .slice none 0 0, .slice none 0 0, .int .i64 fo, .int .i64 fn, .slice none 0 0, .slice none 0 0] 57)) = (w.alloc (.cells #[c0, c1, c2, c3, c4, c5, c6, c7, c8, c9, c10, c11, c12, c13, c14, c15, c16, c17, c18] 57)).setRow w.heap.size #[.int .i64 k, .int .i64 d, .int .i64 n, .int .i64 f, .int .i64 o, .int .i64 p, .int .i64 q, .int .i64 u, .int .i64 m, .int .i64 sn, .int .i64 sd, .slice none 0 0, .slice none 0 0, .slice none 0 0, .slice none 0 0, .int .i64 fo, .int .i64 fn, .slice none 0 0, .slice none 0 0] from (World.setRow_alloc_new w _ _ 57).symm]
  exact this
theorem act_fr {W w : World} {A : Assn} {q : Nat} {x : Ac} (h : Sat W w (sep (blk q (.cells x.cells.toArray 57 (0, 0))) A)) (i : Nat) (v : Value) (hv : x.cells[i]? = some v) : w.cell? ⟨q, i, none⟩ = some v ∧ w.frozen? ⟨q, i, none⟩ = false :=
  ⟨by rw [h.cell i]; simpa using hv, h.unfrozen i⟩
theorem act_ld {W w : World} {A : Assn} {q : Nat} {x : Ac} (h : Sat W w (sep (blk q (.cells x.cells.toArray 57 (0, 0))) A)) :
    Sem.run Tryz.prog (ldAct (.pointer (some ⟨q, 0, none⟩))) w = .ok (.agg #[.int .i64 x.k, .int .i64 x.d, .int .i64 x.n, .int .i64 x.f, .int .i64 x.o, .int .i64 x.p, .int .i64 x.q, .int .i64 x.u, .int .i64 x.m, .int .i64 x.sn, .int .i64 x.sd, .slice x.td.a x.td.n x.td.c, .slice x.tc.a x.tc.n x.tc.c, .slice x.cl.a x.cl.n x.cl.c, .slice x.ea.a x.ea.n x.ea.c, .int .i64 x.fo, .int .i64 x.fn, .slice x.fi.a x.fi.n x.fi.c, .slice x.fk.a x.fk.n x.fk.c]) w :=
  run_ldAct fun i v hv => (act_fr h i v hv).1
theorem act_wr {W w : World} {A : Assn} {q : Nat} {cur : Array Value} (hs : cur.size = 19) (h : Sat W w (sep (blk q (.cells cur 57 (0, 0))) A)) (k d n f o p qq u m sn sd fo fn : Int) :
    ∃ w', Sem.run Tryz.prog (stAct (.pointer (some ⟨q, 0, none⟩)) (.agg #[.int .i64 k, .int .i64 d, .int .i64 n, .int .i64 f, .int .i64 o, .int .i64 p, .int .i64 qq, .int .i64 u, .int .i64 m, .int .i64 sn, .int .i64 sd, .slice none 0 0, .slice none 0 0, .slice none 0 0, .slice none 0 0, .int .i64 fo, .int .i64 fn, .slice none 0 0, .slice none 0 0])) w = .ok () w' ∧ Sat W w' (sep (blk q (.cells (Ac.cells ⟨k, d, n, f, o, p, qq, u, m, sn, sd, Sv.none, Sv.none, Sv.none, Sv.none, fo, fn, Sv.none, Sv.none⟩).toArray 57 (0, 0))) A) :=
  ⟨_, run_stAct h.blk_heap hs ⟨k, d, n, f, o, p, qq, u, m, sn, sd, Sv.none, Sv.none, Sv.none, Sv.none, fo, fn, Sv.none, Sv.none⟩, h.setRow _⟩
end Go.Proofs.YtfapiopnjllnnaaGreatDoor
/- A row of ratios in memory, its places by a function. Plain Lean, no program in sight. -/
namespace PA
open Go Go.RowKit
def rrow (N : Nat) (f : Nat → Rt) : List Value := (List.range N).flatMap fun i => [.int .i64 (f i).n, .int .i64 (f i).d]
def setR (f : Nat → Rt) (i : Nat) (r : Rt) : Nat → Rt := fun k => if k = i then r else f k
theorem rrow_succ (N : Nat) (f : Nat → Rt) : rrow (N + 1) f = rrow N f ++ [.int .i64 (f N).n, .int .i64 (f N).d] := by
  unfold rrow
  rw [List.range_succ, List.flatMap_append]
  simp
theorem rrow_len (N : Nat) (f : Nat → Rt) : (rrow N f).length = N * 2 := by
  induction N with
  | zero => rfl
  | succ N ih => rw [rrow_succ, List.length_append, ih]; simp; omega
theorem rrow_at : ∀ (N : Nat) (f : Nat → Rt) (i : Nat), i < N → (rrow N f)[i * 2]? = some (.int .i64 (f i).n) ∧ (rrow N f)[i * 2 + 1]? = some (.int .i64 (f i).d)
  | 0, _, _, h => by omega
  | N + 1, f, i, h => by
    rw [rrow_succ]
    by_cases hi : i < N
    · have := rrow_at N f i hi
      rw [List.getElem?_append_left (by rw [rrow_len]; omega), List.getElem?_append_left (by rw [rrow_len]; omega)]
      exact this
    · obtain rfl : i = N := by omega
      rw [List.getElem?_append_right (by rw [rrow_len]; omega), List.getElem?_append_right (by rw [rrow_len]; omega), rrow_len, Nat.sub_self, Nat.add_sub_cancel_left]
      exact ⟨rfl, rfl⟩
theorem rrow_congr {N : Nat} {f g : Nat → Rt} (h : ∀ i, i < N → f i = g i) : rrow N f = rrow N g := by
  induction N with
  | zero => rfl
  | succ N ih => rw [rrow_succ, rrow_succ, ih fun i hi => h i (by omega), h N (by omega)]
theorem rrow_set : ∀ (N : Nat) (f : Nat → Rt) (i : Nat) (r : Rt), i < N → ((rrow N f).set (i * 2) (.int .i64 r.n)).set (i * 2 + 1) (.int .i64 r.d) = rrow N (setR f i r)
  | 0, _, _, _, h => by omega
  | N + 1, f, i, r, h => by
    rw [rrow_succ, rrow_succ]
    by_cases hi : i < N
    · have hl := rrow_len N f
      rw [List.set_append_left _ _ (by omega), List.set_append_left _ _ (by rw [List.length_set]; omega), rrow_set N f i r hi]
      have e : setR f i r N = f N := by unfold setR; rw [if_neg (by omega)]
      rw [e]
    · obtain rfl : i = N := by omega
      have hl := rrow_len i f
      have e : rrow i (setR f i r) = rrow i f := rrow_congr fun k hk => by unfold setR; rw [if_neg (by omega)]
      have e2 : setR f i r i = r := by unfold setR; rw [if_pos rfl]
      rw [e, e2, List.set_append_right _ _ (by omega), List.set_append_right _ _ (by omega), hl, Nat.sub_self, Nat.add_sub_cancel_left]
      rfl
def rblk (t g N : Nat) (f : Nat → Rt) : Assn := blk g (.cells (rrow N f).toArray t (0, 0))
section
variable {W w : World} {A : Assn} {t g N : Nat} {f : Nat → Rt}
theorem Sat.rb_at (h : Sat W w (sep (rblk t g N f) A)) (i : Nat) (hi : i < N) : w.cell? ⟨g, i * 2, none⟩ = some (.int .i64 (f i).n) ∧ w.cell? ⟨g, i * 2 + 1, none⟩ = some (.int .i64 (f i).d) := by
  have := rrow_at N f i hi
  exact ⟨by rw [Sat.cell h]; simpa using this.1, by rw [Sat.cell h]; simpa using this.2⟩
theorem Sat.rb_set (h : Sat W w (sep (rblk t g N f) A)) (i : Nat) (hi : i < N) (r : Rt) : Sat W ((w.setCell ⟨g, i * 2, none⟩ (.int .i64 r.n)).setCell ⟨g, i * 2 + 1, none⟩ (.int .i64 r.d)) (sep (rblk t g N (setR f i r)) A) := by
  have h2 := (Sat.setCell h (i * 2) (.int .i64 r.n)).setCell (i * 2 + 1) (.int .i64 r.d)
  unfold rblk
  rw [← rrow_set N f i r hi]
  simpa only [List.setIfInBounds_toArray] using h2
end
end PA
