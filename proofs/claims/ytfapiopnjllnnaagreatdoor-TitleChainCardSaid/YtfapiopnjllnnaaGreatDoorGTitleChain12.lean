/- Owned maps keyed by integers: 'm[k], .. = v, ..': the entry, then its store. Plain Lean, no program in sight. -/
import Derived.Test.YtfapiopnjllnnaaGreatDoorBm
import Derived.Test.YtfapiopnjllnnaaGreatDoorGTitleChain9
import Derived.Test.YtfapiopnjllnnaaGreatDoorGTitleChainSTt
namespace PA
open Go Go.RowKit
section
variable {P : Program} {W w : World} {A : Assn}
theorem run_entryStore {T : TypeId} {b : Nat} {es : Array MapEntry} {clock : Nat} (hb : (es.toList.map (·.born)).Nodup) {j : Nat} {e : MapEntry} (hj : es[j]? = some e) (h : Sat W w (sep (blk b (.map es clock)) A)) (v : Value) :
    ∃ w', (Instr.entryStore T (.map (some b)) (.int .i64 (e.born : Nat)) v).run P w = .ok () w' ∧ Sat W w' (sep (blk b (.map (es.modify j fun x => { x with val := v }) clock)) A) := by
  have hg2 := run_getObj_map (P := P) h.blk_heap
  have hidx : es.findIdx? (fun x => ((x.born : Nat) : Int) == ((e.born : Nat) : Int)) = some j := by
    have hsz : j < es.size := (Array.getElem?_eq_some_iff.1 hj).1
    have hje : es[j] = e := (Array.getElem?_eq_some_iff.1 hj).2
    rw [Array.findIdx?_eq_some_iff_getElem]
    refine ⟨hsz, by simp [hje], fun i hi => ?_⟩
    have hp := List.pairwise_iff_getElem.1 (List.pairwise_map.1 hb) i j (by rw [Array.length_toList]; omega) (by rw [Array.length_toList]; exact hsz) hi
    simp only [Array.getElem_toList] at hp
    rw [hje] at hp
    simp only [beq_iff_eq]
    intro hq
    exact hp (by omega)
  exact ⟨_, by simp [Instr.entryStore, hg2, asInt, asIntOf, hidx, run_setObj_map (P := P) h.blk_heap], h.setObj _⟩
theorem modify_val {es : List MapEntry} {j : Nat} {e : MapEntry} {k : Value} (h1 : es[j]? = some e) (h2 : e.key = k) (v : Value) : es.modify j (fun x => { x with val := v }) = es.modify j fun x => { x with key := k, val := v } := by
  apply List.ext_getElem?
  intro i
  rw [List.getElem?_modify, List.getElem?_modify]
  by_cases hi : j = i
  · subst hi; rw [h1]; simp [← h2]
  · simp [hi]
theorem run_entry_bmap {T K E : TypeId} {z : Value} (hT : P.underlying T = some (.map K E)) (hK : P.underlying K = some (.int .i64)) (hz : ∀ w, (zeroValue E).run P w = .ok z w) {b : Nat} {f : Int → Option Value} {n : Nat} (h : Sat W w (sep (bmap b f n) A)) (k : Int) :
    ∃ (v0 : Value) (st : Int) (w1 : World) (X : Assn), (Instr.mapEntry T (.map (some b)) (.int .i64 k)).run P w = .ok (.tuple #[v0, .int .i64 st]) w1 ∧ Sat W w1 (sep X A) ∧
      ∀ (w2 : World) (B : Assn) (v : Value), Sat W w2 (sep X B) → ∃ w3 n', (Instr.entryStore T (.map (some b)) (.int .i64 st) v).run P w2 = .ok () w3 ∧ Sat W w3 (sep (bmap b (fset f k (some v)) n') B) := by
  obtain ⟨es, clock, h1, h2, hb, h3⟩ := h.bmap_open
  obtain ⟨r, e1, e2, e3⟩ := run_findKey_int (P := P) (k := k) hK h1 w
  have hg := run_getObj_map (P := P) h3.blk_heap
  cases r with
  | none =>
    have hk : f k = none := by rw [← e2]; rfl
    have hp := hb.push (.int .i64 k) z
    refine ⟨z, (clock : Int), _, blk b (.map (es.push { key := .int .i64 k, val := z, born := clock }) (clock + 1)), by simp [Instr.mapEntry, run_underlying hT, hg, run_checkKey_int hK, e1, hz, run_setObj_map (P := P) h3.blk_heap, goInt], h3.setObj _, fun w2 B v hw2 => ?_⟩
    obtain ⟨w3, r3, h4⟩ := run_entryStore (T := T) (P := P) (j := es.size) (e := { key := .int .i64 k, val := z, born := clock }) (by simpa using hp.nodup) (by simp) hw2 v
    have hmod : ((es.push { key := Value.int .i64 k, val := z, born := clock }).modify es.size fun x => { x with val := v }).toList = es.toList ++ [{ key := Value.int .i64 k, val := v, born := clock }] := by
      rw [Array.toList_modify, Array.toList_push]
      apply List.ext_getElem?
      intro i
      rw [List.getElem?_modify]
      by_cases hi : es.size = i
      · subst hi
        have : es.toList.length = es.size := Array.length_toList
        simp
      · simp only [hi, if_false]
        by_cases hlt : i < es.size
        · rw [List.getElem?_append_left (by simpa using hlt), List.getElem?_append_left (by simpa using hlt)]; simp
        · rw [List.getElem?_append_right (by simp; omega), List.getElem?_append_right (by simp; omega)]
          have : i - es.toList.length ≠ 0 := by simp; omega
          obtain ⟨m, hm⟩ : ∃ m, i - es.toList.length = m + 1 := ⟨i - es.toList.length - 1, by omega⟩
          rw [hm]; simp
    refine ⟨w3, _, r3, h4.bmap_mk ?_ rfl ?_⟩
    · rw [hmod]; exact h1.push k v clock hk
    · rw [hmod]; exact hb.push (.int .i64 k) v
  | some r =>
    obtain ⟨j, u⟩ := r
    obtain ⟨e, h4, h5, h6⟩ := e3 j u rfl
    have hk : (f k).isSome = true := by rw [← e2]; rfl
    have hj : es[j]? = some e := by simpa using h4
    have hsame : es.modify j (fun x => { x with key := .int .i64 k }) = es := by
      apply Array.ext'
      rw [Array.toList_modify]
      apply List.ext_getElem?
      intro i
      rw [List.getElem?_modify]
      by_cases hi : j = i
      · subst hi; rw [h4]; simp [← h5]
      · simp [hi]
    refine ⟨u, (e.born : Int), _, blk b (.map es clock), by simp [Instr.mapEntry, run_underlying hT, hg, run_checkKey_int hK, e1, hj, h5, Instr.keyThatStays, sameBits_int, hsame, run_setObj_map (P := P) h3.blk_heap, goInt], h3.setObj _, fun w2 B v hw2 => ?_⟩
    obtain ⟨w3, r3, h7⟩ := run_entryStore (T := T) (P := P) hb.nodup hj hw2 v
    refine ⟨w3, _, r3, h7.bmap_mk ?_ rfl ?_⟩
    · rw [Array.toList_modify, modify_val h4 h5]; exact h1.modify k v h4 h5
    · rw [Array.toList_modify, modify_val h4 h5]; exact hb.modify j (.int .i64 k) v
end
end PA
/- Package title: share, move. -/
namespace Go.Proofs.YtfapiopnjllnnaaGreatDoor
open Go.RowKit PA
def shV (S : Shs) : Int → Option Value := fun k => (S k).map rtV
theorem shV_set (S : Shs) (p : Int) (r : Rt) : fset (shV S) p (some (rtV r)) = shV (setSh S p r) := by
  funext x
  unfold fset shV setSh
  split <;> rfl
/-- The title that p leads to. -/
def isT (p : Nat) (app : Int) (S : Shs) : Assn := ex fun bn : Nat × Nat => sep (blk p (.cells #[.int .i64 app, .map (some bn.1)] 90 (0, 0))) (bmap bn.1 (shV S) bn.2)
section
variable {W w : World} {A : Assn} {p : Nat} {app : Int} {S : Shs}
theorem isT_open (h : Sat W w (sep (isT p app S) A)) : ∃ b n, Sat W w (sep (blk p (.cells #[.int .i64 app, .map (some b)] 90 (0, 0))) (sep (bmap b (shV S) n) A)) := by
  rw [isT, ex_sep, Sat.ex] at h
  obtain ⟨⟨b, n⟩, h⟩ := h
  rw [sep_assoc] at h
  exact ⟨b, n, h⟩
theorem isT_mk {b n : Nat} (h : Sat W w (sep (blk p (.cells #[.int .i64 app, .map (some b)] 90 (0, 0))) (sep (bmap b (shV S) n) A))) : Sat W w (sep (isT p app S) A) := by
  rw [isT, ex_sep, Sat.ex]
  exact ⟨(b, n), by rw [sep_assoc]; exact h⟩
theorem zeroRatio (w : World) : (zeroValue 44).run Tryz.prog w = .ok (.agg #[.int .i64 0, .int .i64 0]) w := by kernel_rfl
set_option maxHeartbeats 1000000 in
theorem share_spec (x : Int) (h : Sat W w (sep (isT p app S) A)) :
    Calls Tryz.prog 47 #[.pointer (some ⟨p, 0, none⟩), .int .i64 x] w fun e w' => e = .returned (.agg #[.int .i64 (shareP S x).n, .int .i64 (shareP S x).d]) ∧ Sat W w' (sep (isT p app S) A) := by
  obtain ⟨b, n, h0⟩ := isT_open h
  obtain ⟨r, hr⟩ : ∃ r, r = shareP S x := ⟨_, rfl⟩
  rw [← hr]
  have h1 := h0.alloc (.cells #[.int .i64 0, .int .i64 0] 44)
  obtain ⟨B, hB⟩ : ∃ B, B = w.heap.size := ⟨_, rfl⟩
  obtain ⟨w1, hw1⟩ : ∃ w1, w1 = w.alloc (.cells #[.int .i64 0, .int .i64 0] 44) := ⟨_, rfl⟩
  have hsz : w1.heap.size = B + 1 := by rw [hw1, World.size_alloc, hB]
  rw [← hB, ← hw1] at h1
  have c1 : w1.cell? ⟨p, 1, none⟩ = some (.map (some b)) := h1.p1.cell 1
  have hlk := run_lookup_bmap (P := Tryz.prog) (T := 88) Tryz.underlying88 Tryz.underlying3 zeroRatio h1.p2 x true
  have HB := Lib.hid hB
  have HW1 := Lib.hid hw1
  have HR := Lib.hid hr
  clear hB hw1 h h0 hr
  cases e : S x with
  | some rr =>
    obtain ⟨rn, rd⟩ := rr
    have hval : shV S x = some (.agg #[.int .i64 rn, .int .i64 rd]) := by unfold shV; rw [e]; rfl
    rw [hval] at hlk
    have hlk2 : (Instr.lookup 88 (.map (some b)) (.int .i64 x) true).run Tryz.prog w1 = .ok (.tuple #[.agg #[.int .i64 rn, .int .i64 rd], .bool true]) w1 := hlk
    have hrv : r = ⟨rn, rd⟩ := by rw [HR.out]; unfold shareP; rw [e]; rfl
    have HRV := Lib.hid hrv
    have h2 := h1.alloc (.cells #[.int .i64 rn, .int .i64 rd] 44)
    rw [hsz] at h2
    obtain ⟨w2, hw2⟩ : ∃ w2, w2 = w1.alloc (.cells #[.int .i64 rn, .int .i64 rd] 44) := ⟨_, rfl⟩
    rw [← hw2] at h2
    obtain ⟨j0, j1, -, -⟩ := rt2 h2
    obtain ⟨k0, k1, k2, k3⟩ := rt2 h2.p1
    have h4 := rt2_set h2.p1 (.int .i64 rn) (.int .i64 rd)
    obtain ⟨w4, hw4⟩ : ∃ w4, w4 = (w2.setCell ⟨B, 0, none⟩ (.int .i64 rn)).setCell ⟨B, 1, none⟩ (.int .i64 rd) := ⟨_, rfl⟩
    rw [← hw4] at h4
    obtain ⟨d0, d1, -, -⟩ := rt2 h4
    have HW2 := Lib.hid hw2
    have HW4 := Lib.hid hw4
    have HSZ := Lib.hid hsz
    have h5 := isT_mk (S := S) (h4.forget.forget)
    clear hw2 hw4 hlk hval hrv e h1 h2 h4 hsz
    go_enter Tryz.func47, Tryz.ntmps47
    go_upto_region 1 with (fail)
    rw [← HB.out, ← HW1.out]
    go_upto_region 2 with (fail)
    rw [HSZ.out, ← HW2.out]
    go_wp2
    rw [← HW4.out]
    exact bodyPost_ret (v := .agg #[.int .i64 rn, .int .i64 rd]) (by simp [results, Tryz.results47, go_sem, d0, d1]) rfl ⟨by rw [HRV.out], h5⟩
  | none =>
    have hval : shV S x = none := by unfold shV; rw [e]; rfl
    rw [hval] at hlk
    have hlk2 : (Instr.lookup 88 (.map (some b)) (.int .i64 x) true).run Tryz.prog w1 = .ok (.tuple #[.agg #[.int .i64 0, .int .i64 0], .bool false]) w1 := hlk
    have hrv : r = ⟨0, 1⟩ := by rw [HR.out]; unfold shareP; rw [e]; rfl
    have HRV := Lib.hid hrv
    have h2 := h1.alloc (.cells #[.int .i64 0, .int .i64 0] 44)
    rw [hsz] at h2
    obtain ⟨w2, hw2⟩ : ∃ w2, w2 = w1.alloc (.cells #[.int .i64 0, .int .i64 0] 44) := ⟨_, rfl⟩
    rw [← hw2] at h2
    obtain ⟨k0, k1, k2, k3⟩ := rt2 h2.p1
    have h4 := rt2_set h2.p1 (.int .i64 0) (.int .i64 1)
    obtain ⟨w4, hw4⟩ : ∃ w4, w4 = (w2.setCell ⟨B, 0, none⟩ (.int .i64 0)).setCell ⟨B, 1, none⟩ (.int .i64 1) := ⟨_, rfl⟩
    rw [← hw4] at h4
    obtain ⟨d0, d1, -, -⟩ := rt2 h4
    have HW2 := Lib.hid hw2
    have HW4 := Lib.hid hw4
    have HSZ := Lib.hid hsz
    have h5 := isT_mk (S := S) (h4.forget.forget)
    clear hw2 hw4 hlk hval hrv e h1 h2 h4 hsz
    go_enter Tryz.func47, Tryz.ntmps47
    go_upto_region 1 with (fail)
    rw [← HB.out, ← HW1.out]
    go_upto_region 2 with (fail)
    rw [HSZ.out, ← HW2.out]
    go_wp2
    rw [← HW4.out]
    exact bodyPost_ret (v := .agg #[.int .i64 0, .int .i64 1]) (by simp [results, Tryz.results47, go_sem, d0, d1]) rfl ⟨by rw [HRV.out], h5⟩
end
end Go.Proofs.YtfapiopnjllnnaaGreatDoor
