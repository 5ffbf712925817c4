/- Package title: the closure of Chain; slices.Backward of steps. -/
import Derived.Test.YtfapiopnjllnnaaGreatDoorGTitleChainSTg
import Derived.Test.YtfapiopnjllnnaaGreatDoorGTitleChainSTa
import Derived.Test.YtfapiopnjllnnaaGreatDoorRf2
import Derived.Test.YtfapiopnjllnnaaGreatDoorSo
namespace Go.Proofs.YtfapiopnjllnnaaGreatDoor
open Go.RowKit PA
def kS : Nat := 20
theorem sizeStep (w : World) : (Go.sizeOf 102).run Tryz.prog w = .ok kS w := by kernel_rfl
def bdStep (p : Array (Nat × Value)) : Sem Value := Instr.build 102 p
theorem build_step (p : Array (Nat × Value)) : Instr.build 102 p = bdStep p := rfl
def bsStep (p : Array (Nat × Value)) : Sem Value := Instr.buildSlice 100 1 p
theorem buildSlice_step (p : Array (Nat × Value)) : Instr.buildSlice 100 1 p = bsStep p := rfl
def stepC (s : Nat × Ac) : List Value := .int .i64 s.1 :: s.2.cells
theorem stepC_len (s : Nat × Ac) : (stepC s).length = 20 := rfl
theorem stepC_one (s : Nat × Ac) : ∀ u ∈ stepC s, u.oneCell' = true := by
  intro u hu
  rcases List.mem_cons.1 hu with rfl | hu
  · rfl
  · exact s.2.one u hu
def stsC (l : List (Nat × Ac)) : List Value := l.flatMap stepC
theorem stsC_len (l : List (Nat × Ac)) : (stsC l).length = l.length * 20 := by
  induction l with
  | nil => rfl
  | cons x xs ih => rw [stsC, List.flatMap_cons, List.length_append, ← stsC, ih, List.length_cons, stepC_len]; omega
theorem stsC_at (xs : List (Nat × Ac)) (i : Nat) (hi : i < xs.length) (j : Nat) (hj : j < 20) : (stsC xs)[i * 20 + j]? = (stepC xs[i])[j]? := by
  have e : xs = xs.take i ++ xs[i] :: xs.drop (i + 1) := by rw [← List.drop_eq_getElem_cons hi, List.take_append_drop]
  have hl : (stsC (xs.take i)).length = i * 20 := by rw [stsC_len, List.length_take, Nat.min_eq_left (by omega)]
  conv => lhs; rw [e]
  unfold stsC at hl ⊢
  rw [List.flatMap_append, List.getElem?_append_right (by omega), hl, Nat.add_sub_cancel_left, List.flatMap_cons, List.getElem?_append_left (by rw [stepC_len]; exact hj)]
theorem infoStep : (Tryz.prog.info? 102).map (fun i => (i.zero, i.size, i.bytes)) = some (some (.agg (stepC (0, Ac.zero)).toArray), 20, 256) := by kernel_rfl
theorem run_bdStep (i : Nat) (x : Ac) (w : World) : (bdStep #[(0, .int .i64 i), (1, .agg x.cells.toArray)]).run Tryz.prog w = .ok (.agg (stepC (i, x)).toArray) w := by kernel_rfl
theorem run_bsStep (s : Nat × Ac) (w : World) : (bsStep #[(0, .agg (stepC s).toArray)]).run Tryz.prog w = .ok (.slice (some ⟨w.heap.size, 0, none⟩) 1 1) (w.alloc (.cells (stepC s).toArray 102)) := by
  obtain ⟨i, h1, h2, h3, h4⟩ := info_parts infoStep
  exact run_buildSlice w 100 102 1 _ _ i _ Tryz.underlying100 h1 h2 (by rw [h3]; omega) (by rw [h3]; omega) (by rw [h3]; kernel_rfl)
theorem act_rdW {w : World} {q : Nat} {x : Ac} (h : ∀ i v, x.cells[i]? = some v → w.cell? ⟨q, i, none⟩ = some v) : Sem.run Tryz.prog (loadCellsFrom ⟨q, 0, none⟩ 0 kA #[]) w = .ok x.cells.toArray w := by
  have hl : x.cells.length = kA := rfl
  have := run_loadCells_list (P := Tryz.prog) w ⟨q, 0, none⟩ x.cells (fun j v hj => by
    have e : (⟨q, 0, none⟩ : Addr).add j = ⟨q, j, none⟩ := by unfold Addr.add; split <;> simp_all
    rw [e]
    exact h j v hj)
  rw [hl] at this
  exact this
attribute [local go_sem ↓] sizeAct build_step buildSlice_step
/-- The transfers that have effect, with their indices. -/
def evD (s : List (Nat × Ac)) (i : Nat) (x : Ac) (dn : Bool) : List (Nat × Ac) := if x.k = 16 ∧ dn = true then s ++ [(i, x)] else s
theorem evD_len {s : List (Nat × Ac)} {i : Nat} {x : Ac} {dn : Bool} (h : s.length ≤ i) : (evD s i x dn).length ≤ i + 1 := by
  unfold evD
  split
  · rw [List.length_append, List.length_singleton]; omega
  · omega
/-- A captured slice of steps. -/
def capD (V : Nat) (s : List (Nat × Ac)) : Assn := ex fun ac : Option Addr × Nat => sep (blk V (.cells #[.slice ac.1 s.length ac.2] 100 (0, 0))) (osl 102 20 ac.1 s.length ac.2 (stsC s))
theorem capD_open {W w : World} {A : Assn} {V : Nat} {s : List (Nat × Ac)} (h : Sat W w (sep (capD V s) A)) : ∃ a c, Sat W w (sep (blk V (.cells #[.slice a s.length c] 100 (0, 0))) (sep (osl 102 20 a s.length c (stsC s)) A)) := by
  rw [capD, ex_sep, Sat.ex] at h
  obtain ⟨⟨a, c⟩, h⟩ := h
  rw [sep_assoc] at h
  exact ⟨a, c, h⟩
theorem capD_mk {W w : World} {A : Assn} {V : Nat} {s : List (Nat × Ac)} {a : Option Addr} {c : Nat} (h : Sat W w (sep (blk V (.cells #[.slice a s.length c] 100 (0, 0))) (sep (osl 102 20 a s.length c (stsC s)) A))) : Sat W w (sep (capD V s) A) := by
  rw [capD, ex_sep, Sat.ex]
  exact ⟨(a, c), by rw [sep_assoc]; exact h⟩
set_option maxHeartbeats 2000000 in
theorem chain1_spec {W w : World} {B : Assn} (V : Nat) (s : List (Nat × Ac)) (i : Nat) (x : Ac) (dn : Bool) (pt : Value) (hi : i < 40) (hs : s.length ≤ i) (h : Sat W w (sep (capD V s) B)) :
    Calls Tryz.prog 46 #[pt, .int .i64 i, .agg x.cells.toArray, .bool dn, .pointer (some ⟨V, 0, none⟩)] w fun e w' => e = .returned (.tuple #[]) ∧ Sat W w' (sep (capD V (evD s i x dn)) B) := by
  obtain ⟨a, c, h0⟩ := capD_open h
  have h1 := h0.alloc0 (.cells x.cells.toArray 57)
  obtain ⟨w1, hw1⟩ : ∃ w1, w1 = w.alloc (.cells x.cells.toArray 57) := ⟨_, rfl⟩
  have b0 : (w.alloc (.cells x.cells.toArray 57)).cell? ⟨w.heap.size, 0, none⟩ = some (.int .i64 x.k) := act_box w x 0
  have l1 : Sem.run Tryz.prog (loadCellsFrom ⟨w.heap.size, 0, none⟩ 0 kA #[]) (w.alloc (.cells x.cells.toArray 57)) = .ok x.cells.toArray (w.alloc (.cells x.cells.toArray 57)) := act_rdW fun j v hj => by rw [act_box]; exact hj
  obtain ⟨Bx, hBx⟩ : ∃ Bx, Bx = w.heap.size := ⟨_, rfl⟩
  rw [← hw1, ← hBx] at b0 l1
  rw [← hw1] at h1
  obtain ⟨n, hn⟩ : ∃ n, n = s.length := ⟨_, rfl⟩
  rw [← hn] at h1
  have H1 := Lib.hid h1
  have HW1 := Lib.hid hw1
  have HBX := Lib.hid hBx
  have HN := Lib.hid hn
  have hn40 : n ≤ 40 := by omega
  clear h h0 h1 hw1 hBx hn hs
  by_cases hc : x.k = 16 ∧ dn = true
  · obtain ⟨hk, rfl⟩ := hc
    have HE : Hid (evD s i x true = s ++ [(i, x)]) := Lib.hid (by unfold evD; rw [if_pos ⟨hk, rfl⟩])
    rw [hk] at b0
    have v0 : w1.cell? ⟨V, 0, none⟩ = some (.slice a n c) := H1.out.cell 0
    have hbd := run_bdStep i x
    have hbs := run_bsStep (i, x)
    have hB : Sat W (w1.alloc (.cells (stepC (i, x)).toArray 102)) (sep (osl 102 20 a n c (stsC s)) (sep (blk V (.cells #[.slice a n c] 100 (0, 0))) B)) := (H1.out.alloc0 _).p1
    have HSRC := Lib.hid (new_src w1 (stepC (i, x)) 102)
    have HB := Lib.hid hB
    clear hk hB
    go_enter Tryz.func46, Tryz.ntmps46
    go_upto_region 1 with (fail)
    rw [← HBX.out, ← HW1.out]
    go_wp2_with (at_builtin; refine wpl_append_osl rfl _ _ 100 rfl 102 20 256 _ Tryz.underlying100 infoStep rfl rfl HB.out rfl (stepC (i, x)) rfl (by simp) (by intro b' hb; cases hb; exact HSRC.out) (stepC_one _) (by omega) (by unfold maxLen; omega) ?_)
    intro a2 c2 w4 h5
    have h6 := h5.p1
    have u0 := h6.unfrozen 0
    have v1 : w4.cell? ⟨V, 0, none⟩ = some (.slice a n c) := h6.cell 0
    have H7 := Lib.hid (h6.setCell 0 (.slice a2 (n + 1) c2))
    clear h5 h6 HB hbd hbs l1
    go_wp2
    go_end0
    refine ⟨rfl, ?_⟩
    rw [HE.out]
    have hl : (s ++ [(i, x)]).length = n + 1 := by rw [List.length_append, ← HN.out]; rfl
    refine capD_mk (a := a2) (c := c2) ?_
    rw [hl, show stsC (s ++ [(i, x)]) = stsC s ++ stepC (i, x) by simp [stsC]]
    exact H7.out
  · have HE : Hid (evD s i x dn = s) := Lib.hid (by unfold evD; rw [if_neg hc])
    have HFIN : Hid (Sat W w1 (sep (capD V s) B)) := Lib.hid (capD_mk (a := a) (c := c) (by rw [← HN.out]; exact H1.out))
    clear l1
    by_cases hk : x.k = 16
    · have hdn : dn = false := by cases dn <;> simp_all
      rw [hk] at b0
      subst hdn
      clear hc hk
      go_enter Tryz.func46, Tryz.ntmps46
      go_upto_region 1 with (fail)
      rw [← HBX.out, ← HW1.out]
      go_wp2
      go_end0
      exact ⟨rfl, by rw [HE.out]; exact HFIN.out⟩
    · have bz : (x.k == 16) = false := by simp [hk]
      clear hc hk
      go_enter Tryz.func46, Tryz.ntmps46
      go_upto_region 1 with (fail)
      rw [← HBX.out, ← HW1.out]
      go_wp2
      go_end0
      exact ⟨rfl, by rw [HE.out]; exact HFIN.out⟩
theorem backSteps_spec (a : Option Addr) (n c : Nat) (w : World) :
    Calls Tryz.prog 48 #[.slice a n c] w fun e w' => e = .returned (.func (.func 71) #[] #[.pointer (some ⟨w.heap.size, 0, none⟩)]) ∧ w' = w.alloc (.cells #[.slice a n c] 100) := by
  have hmf : ∀ (fn : Fn) (first cap : Array Value) (w : World), (Instr.makeFunc fn first cap).run Tryz.prog w = .ok (.func fn first cap) w := fun _ _ _ _ => rfl
  go_enter Tryz.func48, Tryz.ntmps48
  go_wp2
  go_ret
  exact ⟨rfl, rfl⟩
end Go.Proofs.YtfapiopnjllnnaaGreatDoor
