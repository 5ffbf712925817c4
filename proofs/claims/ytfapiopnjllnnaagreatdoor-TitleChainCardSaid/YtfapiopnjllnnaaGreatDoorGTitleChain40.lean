/- Title's script in plain, and pick. -/
import Derived.Test.YtfapiopnjllnnaaGreatDoorGTitleChain39
import Derived.Deep.CutBlock
import Derived.Deep.WholeRow
namespace PA
open Go
def pickP (l : List Int) (i : Nat) (n : Int) : Int := match l[i]? with | some x => max 0 (Int.tmod x n) | none => 0
theorem pickP_nat (l : List Int) (i : Nat) (n : Int) (hn : 0 < n) : ∃ k : Nat, pickP l i n = (k : Int) ∧ (k : Int) < n := by
  unfold pickP
  split
  · rename_i x _
    refine ⟨(max 0 (Int.tmod x n)).toNat, by omega, ?_⟩
    have := Int.tmod_lt_of_pos x hn
    omega
  · exact ⟨0, rfl, hn⟩
def shsP : List Rt := [⟨1, 1⟩, ⟨1, 2⟩, ⟨1, 3⟩, ⟨2, 3⟩, ⟨1, 6⟩, ⟨1, 1048576⟩, ⟨1, 1048575⟩]
def act1 (k i d : Nat) : Ac := acNum 16 (95 + (d : Int)) (5 + 2 * (i : Int)) 2 (1 + ((k % 4 : Nat) : Int)) (1 + (((k % 4 + 1 + k / 4 % 3) % 4 : Nat) : Int)) ⟨0, 0⟩
def act2 (k : Nat) (x : Ac) : Ac := if k % 11 = 10 then { x with f := 7 } else x
def act3 (k n : Nat) (x : Ac) : Ac := if k % 5 = 4 then { x with k := 17, u := x.d + ((n % 30 : Nat) : Int) } else { x with sn := (shsP.getD (n % 7) ⟨0, 0⟩).n, sd := (shsP.getD (n % 7) ⟨0, 0⟩).d }
def act4 (k : Nat) (x : Ac) : Ac := if k % 23 = 22 then acNum 1 x.d x.n 2 0 0 ⟨0, 0⟩ else x
def actN (k n d i : Nat) : Ac := act4 k (act3 k n (act2 k (act1 k i d)))
def actP (l : List Int) (i : Nat) : Ac := actN (pickP l (3 * i) 1048576).toNat (pickP l (3 * i + 1) 1048576).toNat (pickP l (3 * i + 2) 40).toNat i
def fil2 : Ac := acNum 0 100 0 2 1 (-1) ⟨0, 0⟩
def fil7 : Ac := acNum 0 90 1 7 2 (-1) ⟨0, 0⟩
def scrN (l : List Int) : Nat := min 12 ((l.length + 2) / 3)
def scrP (l : List Int) : List Ac := [fil2, fil7] ++ (List.range (scrN l)).map (actP l)
end PA
namespace Go.Proofs.YtfapiopnjllnnaaGreatDoor
open Go.RowKit PA
theorem pick25_spec {W w : World} {A : Assn} {I : Mem} (a : Option Addr) (c : Nat) (l : List Int) (i : Nat) (n : Int) (hn0 : 0 < n) (hn1 : n ≤ 9223372036854775807) (hi : i ≤ 1000) (hv : (rInt.slice 1).rel I [.slice a l.length c] l) (hl : ∀ z ∈ l, I64' z) (h : Sat W w (sep (kn I) A)) :
    Calls Tryz.prog 37 #[.slice a l.length c, .int .i64 i, .int .i64 n] w fun e w' => e = .returned (.int .i64 (pickP l i n)) ∧ w = w' := by
  obtain ⟨a', c', e, hsw, hc⟩ := ints_rel.1 hv
  simp only [Value.slice.injEq] at e
  obtain ⟨rfl, -, rfl⟩ := e
  obtain ⟨r, hr⟩ : ∃ r, r = pickP l i n := ⟨_, rfl⟩
  rw [← hr]
  unfold pickP at hr
  have HR := Lib.hid hr
  have hlen : (l.length : Int) ≤ 9223372036854775807 := by
    have h1 := hsw.1; have h2 := hsw.2.1; unfold maxLen at h2; omega
  have hiI : (i : Int) ≤ 1000 := by omega
  by_cases hlt : i < l.length
  · have hltz : ¬ (l.length : Int) ≤ (i : Int) := by omega
    have hltz2 : (i : Int) < (l.length : Int) := by omega
    obtain ⟨b, o, rfl, hcell⟩ := cells_ext hc (fun e => by have := congrArg List.length e; simp at this; rw [this] at hlt; simp at hlt)
    obtain ⟨x, hx⟩ : ∃ x, x = l[i] := ⟨_, rfl⟩
    have c0 := hcell w h.ext i (iv x) (by rw [List.getElem?_map, List.getElem?_eq_getElem hlt, hx]; rfl)
    unfold iv at c0
    have hx64 := hl x (by rw [hx]; exact List.getElem_mem hlt)
    have HX : Hid (l[i]? = some x) := Lib.hid (by rw [List.getElem?_eq_getElem hlt, hx])
    have hn00 : ¬ n = 0 := by omega
    have ht1 : Int.tmod x n < n := Int.tmod_lt_of_pos x hn0
    obtain ⟨t, ht⟩ : ∃ t, t = Int.tmod x n := ⟨_, rfl⟩
    have et : Int.tmod x n = t := ht.symm
    rw [← ht] at ht1
    have HT := Lib.hid ht
    obtain ⟨ll, hll⟩ : ∃ ll, ll = l.length := ⟨_, rfl⟩
    rw [← hll] at hlen hltz hltz2 ⊢
    clear hv hc hcell hl hr hx ht hll h hsw
    go_enter Tryz.func37, Tryz.ntmps37
    go_wp2
    go_ret
    have hrr := HR.out
    rw [HX.out] at hrr
    simp only at hrr
    rw [← HT.out] at hrr
    exact ⟨by rw [hrr]; rfl, rfl⟩
  · have hltz : (l.length : Int) ≤ (i : Int) := by omega
    have HX : Hid (l[i]? = none) := Lib.hid (List.getElem?_eq_none (by omega))
    obtain ⟨ll, hll⟩ : ∃ ll, ll = l.length := ⟨_, rfl⟩
    rw [← hll] at hlen hltz ⊢
    clear hv hc hl hr hll h hsw hlt
    go_enter Tryz.func37, Tryz.ntmps37
    go_wp2
    go_ret
    have hrr := HR.out
    rw [HX.out] at hrr
    exact ⟨by rw [hrr]; rfl, rfl⟩
end Go.Proofs.YtfapiopnjllnnaaGreatDoor
/- An act stored and loaded whole, as one operation of the walk. -/
namespace Go.Proofs.YtfapiopnjllnnaaGreatDoor
open Go.RowKit PA
def stAct (a v : Value) : Sem Unit := Instr.storeAt 57 a v
def ldAct (a : Value) : Sem Value := Instr.loadAt 57 a
theorem storeAt_act (a v : Value) : Instr.storeAt 57 a v = stAct a v := rfl
theorem loadAt_act (a : Value) : Instr.loadAt 57 a = ldAct a := rfl
theorem isAggAct (w : World) : (Go.isAgg 57).run Tryz.prog w = .ok true w := by kernel_rfl
theorem run_stAct {w : World} {q : Nat} {cs : Array Value} (h : w.heap[q]? = some (.cells cs 57 (0, 0))) (hs : cs.size = 19) (x : Ac) :
    Sem.run Tryz.prog (stAct (.pointer (some ⟨q, 0, none⟩)) (.agg x.cells.toArray)) w = .ok () (w.setRow q x.cells.toArray) := by
  have hst := run_storeCells_at Tryz.prog q 0 57 x.cells 0 cs w h (by show 0 + 0 + 19 ≤ _; omega) x.one
  have e : cs.toList.take (0 + 0) ++ x.cells ++ cs.toList.drop (0 + 0 + x.cells.length) = x.cells := by
    have hd : cs.toList.drop (0 + 0 + x.cells.length) = [] := List.drop_eq_nil_of_le (by rw [Array.length_toList, hs]; show 19 ≤ 0 + 0 + 19; omega)
    rw [hd, List.append_nil]; rfl
  rw [e] at hst
  have hk : ¬ (Value.agg x.cells.toArray).cells.size ≠ kA := by
    intro hc; exact hc rfl
  show Sem.run Tryz.prog (storeVar 57 ⟨q, 0, none⟩ (.agg x.cells.toArray)) w = _
  unfold storeVar
  rw [Sem.run_bind, sizeAct]
  show Sem.run Tryz.prog (if (Value.agg x.cells.toArray).cells.size ≠ kA then _ else _) w = _
  rw [if_neg hk]
  exact hst
theorem ldgen {P : Program} (B : Sem Bool) (N : Sem Nat) (L : Nat → Sem (Array Value)) (e : Sem Value) {n : Nat} {c : Array Value} {w : World} (hB : B.run P w = .ok true w) (hN : N.run P w = .ok n w) (hL : (L n).run P w = .ok c w) :
    Sem.run P (do if ← B then pure (.agg (← L (← N))) else e) w = .ok (.agg c) w := by
  rw [Sem.run_bind, hB]
  show Sem.run P (do pure (Value.agg (← L (← N)))) w = _
  rw [Sem.run_bind, hN]
  show Sem.run P (do pure (Value.agg (← L n))) w = _
  rw [Sem.run_bind, hL]
  rfl
theorem run_ldAct {w : World} {q : Nat} {x : Ac} (h : ∀ i v, x.cells[i]? = some v → w.cell? ⟨q, i, none⟩ = some v) :
    Sem.run Tryz.prog (ldAct (.pointer (some ⟨q, 0, none⟩))) w = .ok (.agg x.cells.toArray) w := by
  have hl : x.cells.length = kA := rfl
  have := run_loadCells_list (P := Tryz.prog) w ⟨q, 0, none⟩ x.cells (fun j v hj => by
    have e : (⟨q, 0, none⟩ : Addr).add j = ⟨q, j, none⟩ := by unfold Addr.add; split <;> simp_all
    rw [e]
    exact h j v hj)
  rw [hl] at this
  show Sem.run Tryz.prog (loadVar 57 ⟨q, 0, none⟩) w = _
  unfold loadVar
  exact ldgen (Go.isAgg 57) (Go.sizeOf 57) (loadCells ⟨q, 0, none⟩) _ (isAggAct w) (sizeAct w) this
theorem st_lit (w : World) (c0 c1 c2 c3 c4 c5 c6 c7 c8 c9 c10 c11 c12 c13 c14 c15 c16 c17 c18 : Value) (k d n f o p q u m sn sd fo fn : Int) :
    Sem.run Tryz.prog (stAct (.pointer (some ⟨w.heap.size, 0, none⟩)) (.agg #[.int .i64 k, .int .i64 d, .int .i64 n, .int .i64 f, .int .i64 o, .int .i64 p, .int .i64 q, .int .i64 u, .int .i64 m, .int .i64 sn, .int .i64 sd, .slice none 0 0, .slice none 0 0, .slice none 0 0, .slice none 0 0, .int .i64 fo, .int .i64 fn, .slice none 0 0, .slice none 0 0])) (w.alloc (.cells #[c0, c1, c2, c3, c4, c5, c6, c7, c8, c9, c10, c11, c12, c13, c14, c15, c16, c17, c18] 57)) = .ok () (w.alloc (.cells #[.int .i64 k, .int .i64 d, .int .i64 n, .int .i64 f, .int .i64 o, .int .i64 p, .int .i64 q, .int .i64 u, .int .i64 m, .int .i64 sn, .int .i64 sd, .slice none 0 0, .slice none 0 0, .slice none 0 0, .slice none 0 0, .int .i64 fo, .int .i64 fn, .slice none 0 0, .slice none 0 0] 57)) := by
  have h : (w.alloc (.cells #[c0, c1, c2, c3, c4, c5, c6, c7, c8, c9, c10, c11, c12, c13, c14, c15, c16, c17, c18] 57)).heap[w.heap.size]? = some (.cells #[c0, c1, c2, c3, c4, c5, c6, c7, c8, c9, c10, c11, c12, c13, c14, c15, c16, c17, c18] 57 (0, 0)) := heap_alloc_last _ _
  have := run_stAct h rfl ⟨k, d, n, f, o, p, q, u, m, sn, sd, Sv.none, Sv.none, Sv.none, Sv.none, fo, fn, Sv.none, Sv.none⟩
  rw [show (w.alloc (.cells #[.int .i64 k, .int .i64 d, .int .i64 n, .int .i64 f, .int .i64 o, .int .i64 p, .int .i64 q, .int .i64 u, .int .i64 m, .int .i64 sn, .int .i64 sd, .slice none 0 0, .slice none 0 0, .slice none 0 0, .slice none 0 0, .int .i64 fo, .int .i64 fn, .slice none 0 0, .slice none 0 0] 57)) = (w.alloc (.cells #[c0, c1, c2, c3, c4, c5, c6, c7, c8, c9, c10, c11, c12, c13, c14, c15, c16, c17, c18] 57)).setRow w.heap.size #[.int .i64 k, .int .i64 d, .int .i64 n, .int .i64 f, .int .i64 o, .int .i64 p, .int .i64 q, .int .i64 u, .int .i64 m, .int .i64 sn, .int .i64 sd, .slice none 0 0, .slice none 0 0, .slice none 0 0, .slice none 0 0, .int .i64 fo, .int .i64 fn, .slice none 0 0, .slice none 0 0] from (World.setRow_alloc_new w _ _ 57).symm]
  exact this
theorem act_fr {W w : World} {A : Assn} {q : Nat} {x : Ac} (h : Sat W w (sep (blk q (.cells x.cells.toArray 57 (0, 0))) A)) (i : Nat) (v : Value) (hv : x.cells[i]? = some v) : w.cell? ⟨q, i, none⟩ = some v ∧ w.frozen? ⟨q, i, none⟩ = false :=
  ⟨by rw [h.cell i]; simpa using hv, h.unfrozen i⟩
theorem act_ld {W w : World} {A : Assn} {q : Nat} {x : Ac} (h : Sat W w (sep (blk q (.cells x.cells.toArray 57 (0, 0))) A)) :
    Sem.run Tryz.prog (ldAct (.pointer (some ⟨q, 0, none⟩))) w = .ok (.agg #[.int .i64 x.k, .int .i64 x.d, .int .i64 x.n, .int .i64 x.f, .int .i64 x.o, .int .i64 x.p, .int .i64 x.q, .int .i64 x.u, .int .i64 x.m, .int .i64 x.sn, .int .i64 x.sd, .slice x.td.a x.td.n x.td.c, .slice x.tc.a x.tc.n x.tc.c, .slice x.cl.a x.cl.n x.cl.c, .slice x.ea.a x.ea.n x.ea.c, .int .i64 x.fo, .int .i64 x.fn, .slice x.fi.a x.fi.n x.fi.c, .slice x.fk.a x.fk.n x.fk.c]) w :=
  run_ldAct fun i v hv => (act_fr h i v hv).1
theorem act_wr {W w : World} {A : Assn} {q : Nat} {cur : Array Value} (hs : cur.size = 19) (h : Sat W w (sep (blk q (.cells cur 57 (0, 0))) A)) (k d n f o p qq u m sn sd fo fn : Int) :
    ∃ w', Sem.run Tryz.prog (stAct (.pointer (some ⟨q, 0, none⟩)) (.agg #[.int .i64 k, .int .i64 d, .int .i64 n, .int .i64 f, .int .i64 o, .int .i64 p, .int .i64 qq, .int .i64 u, .int .i64 m, .int .i64 sn, .int .i64 sd, .slice none 0 0, .slice none 0 0, .slice none 0 0, .slice none 0 0, .int .i64 fo, .int .i64 fn, .slice none 0 0, .slice none 0 0])) w = .ok () w' ∧ Sat W w' (sep (blk q (.cells (Ac.cells ⟨k, d, n, f, o, p, qq, u, m, sn, sd, Sv.none, Sv.none, Sv.none, Sv.none, fo, fn, Sv.none, Sv.none⟩).toArray 57 (0, 0))) A) :=
  ⟨_, run_stAct h.blk_heap hs ⟨k, d, n, f, o, p, qq, u, m, sn, sd, Sv.none, Sv.none, Sv.none, Sv.none, fo, fn, Sv.none, Sv.none⟩, h.setRow _⟩
end Go.Proofs.YtfapiopnjllnnaaGreatDoor
