/- slices.Backward of steps, as an iterator; slices.Reverse of ints. -/
import Derived.Test.YtfapiopnjllnnaaGreatDoorGTitleChainSTo
namespace Go.Proofs.YtfapiopnjllnnaaGreatDoor
open Go.RowKit PA
attribute [local go_sem] Oper.semAt_some
attribute [local go_sem ↓] sizeStep
theorem steps_ld {W w : World} {A : Assn} {a : Option Addr} {m c : Nat} {s : List (Nat × Ac)} (hm : s.length = m) (h : Sat W w (sep (osl 102 20 a m c (stsC s)) A)) (i : Nat) (hi : i < m) :
    ∃ g x, a = some ⟨g, 0, none⟩ ∧ s[i]? = some x ∧ Sem.run Tryz.prog (loadCellsFrom ⟨g, i * 20, none⟩ 0 kS #[]) w = .ok (stepC x).toArray w := by
  have hil : i < s.length := by omega
  obtain ⟨g, rfl, hc⟩ := h.osl_at (fun e => by have := congrArg List.length e; rw [stsC_len, List.length_nil] at this; omega)
  refine ⟨g, s[i], rfl, List.getElem?_eq_getElem hil, ?_⟩
  have hl : (stepC s[i]).length = kS := rfl
  have := run_loadCells_list (P := Tryz.prog) w ⟨g, i * 20, none⟩ (stepC s[i]) (fun j v hj => by
    have hj20 : j < 20 := (List.getElem?_eq_some_iff.1 hj).1
    have e : (⟨g, i * 20, none⟩ : Addr).add j = ⟨g, i * 20 + j, none⟩ := by unfold Addr.add; split <;> simp_all
    rw [e]
    exact hc _ _ (by rw [stsC_at s i hil j hj20]; exact hj))
  rw [hl] at this
  exact this
def encY (y : Nat × (Nat × Ac)) : Array Value := #[.int .i64 y.1, .agg (stepC y.2).toArray]
def noY (_ : Nat × (Nat × Ac)) : Assn := emp
/-- The last t steps, the last one first, with their places. -/
def backP (s : List (Nat × Ac)) (t : Nat) : List (Nat × (Nat × Ac)) := (List.range t).map fun k => (s.length - 1 - k, s.getD (s.length - 1 - k) (0, Ac.zero))
theorem backP_succ (s : List (Nat × Ac)) (i : Nat) (x : Nat × Ac) (hx : s[i]? = some x) : backP s (s.length - i) = backP s (s.length - (i + 1)) ++ [(i, x)] := by
  obtain ⟨hi, e⟩ := List.getElem?_eq_some_iff.1 hx
  unfold backP
  rw [show s.length - i = (s.length - (i + 1)) + 1 by omega, List.range_succ, List.map_append]
  congr 1
  have e2 : s.length - 1 - (s.length - (i + 1)) = i := by omega
  simp only [List.map_cons, List.map_nil, e2]
  rw [List.getD_eq_getElem?_getD, hx]; rfl
theorem backP_all (s : List (Nat × Ac)) : (backP s s.length).map (·.2) = s.reverse := by
  unfold backP
  rw [List.map_map]
  apply List.ext_getElem
  · simp
  · intro k h1 h2
    have hk : k < s.length := by simpa using h2
    simp only [List.getElem_map, List.getElem_range, Function.comp_apply, List.getElem_reverse]
    rw [List.getD_eq_getElem?_getD, List.getElem?_eq_getElem (by omega)]; rfl
set_option maxRecDepth 100000 in
set_option maxHeartbeats 4000000 in
theorem back1_gives {W : World} {A : Assn} (n : Nat) (hn : 1 ≤ n) (Bs : Nat) (a : Option Addr) (m c : Nat) (s : List (Nat × Ac)) (hm : s.length = m) (h40 : m ≤ 40) :
    Gives Fence.wide n Tryz.prog W 71 #[.pointer (some ⟨Bs, 0, none⟩)] encY noY 41 (fun xs => xs = backP s s.length)
      (sep (blk Bs (.cells #[.slice a m c] 100 (0, 0))) (sep (osl 102 20 a m c (stsC s)) A)) (sep (osl 102 20 a m c (stsC s)) A) := by
  intro lp R w hY h0
  have HY := Lib.hid hY
  clear hY
  have HM := Lib.hid hm
  have c0 : w.cell? ⟨Bs, 0, none⟩ = some (.slice a m c) := h0.p1.cell 0
  have HH0 := Lib.hid h0
  have hmI : (m : Int) ≤ 40 := by omega
  clear h0 hm
  refine callsIn_of_wp Tryz.func71 rfl trivial ?_ rfl
  simp only [Tryz.ntmps71, List.size_toArray, List.length_cons, List.length_nil, Nat.reduceAdd, Nat.reduceSub, Array.replicate_succ, Array.replicate_zero, List.push_toArray, List.append_toArray, List.nil_append, List.cons_append]
  gi_wp2_with fail
  gi_loopw [3] (fun iv wr => ∃ k : Nat, k ≤ m ∧ iv = .int .i64 ((k : Int) - 1) ∧ Sat W wr (sep (R (backP s (s.length - k))) (sep (blk Bs (.cells #[.slice a m c] 100 (0, 0))) (sep (osl 102 20 a m c (stsC s)) A)))) (fun iv _ => (intOf iv + 1).toNat)
  case atStart =>
    refine ⟨m, by omega, rfl, ?_⟩
    rw [show s.length - m = 0 by have := HM.out; omega]
    exact HH0.out
  case round =>
    obtain ⟨k, hk, rfl, hS⟩ := hrel
    clear c0 HH0
    cases k with
    | zero =>
      have e : ((0 : Nat) : Int) - 1 = -1 := rfl
      rw [e]
      have HS := Lib.hid hS
      clear hS e
      gi_wp2_with fail
      go_end0
      refine ⟨⟨_, rfl⟩, _, rfl, ?_⟩
      have := HS.out.p1.drop
      exact this
    | succ i =>
      have e : ((i + 1 : Nat) : Int) - 1 = (i : Int) := by omega
      rw [e]
      have hlt : i < m := by omega
      have hltz : (i : Int) < (m : Int) := by omega
      obtain ⟨g, x, rfl, hx, l1⟩ := steps_ld HM.out hS.p2 i hlt
      have c0 : wr.cell? ⟨Bs, 0, none⟩ = some (.slice (some ⟨g, 0, none⟩) m c) := hS.p1.cell 0
      have hsucc := backP_succ s i x hx
      have hxx : Sat W wr (sep (R (backP s (s.length - (i + 1)))) (sep (noY (i, x)) (sep (blk Bs (.cells #[.slice (some ⟨g, 0, none⟩) m c] 100 (0, 0))) (sep (osl 102 20 (some ⟨g, 0, none⟩) m c (stsC s)) A)))) := by
        unfold noY
        rw [emp_sep]; exact hS
      obtain ⟨fn, tmps, assign, body, hy, hR⟩ := HY.out (backP s (s.length - (i + 1))) (i, x) wr _ (by unfold backP; simp; have := HM.out; omega) hxx
      dsimp only [encY] at hy
      have HSU := Lib.hid hsucc
      clear hx hS hxx hsucc e
      gi_wp2_with fail
      refine hR.mono ?_
      rintro e' w5 ⟨rfl, h9⟩
      rw [← HSU.out] at h9
      have H9 := Lib.hid h9
      clear hR hy l1 c0 h9
      gi_wp2_with fail
      go_roundw
      case rel => exact ⟨i, by omega, rfl, H9.out⟩
      case measure => simp [intOf]
end Go.Proofs.YtfapiopnjllnnaaGreatDoor
