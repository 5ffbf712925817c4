/- slices.Sort, AppendSeq, Collect, Sorted of ints, said with Sat. -/
import Derived.RangeFuncBound
import Derived.RangeFuncCalls
import Derived.RangeFuncLeaves
import Derived.OwnWalkIn
import Derived.TacticsInMore
import Derived.LoopNIn
import Derived.LoopIn
import Derived.Test.YtfapiopnjllnnaaGreatDoorSort
import Derived.Test.YtfapiopnjllnnaaGreatDoorRows
import Derived.Test.YtfapiopnjllnnaaGreatDoorRf
namespace PA
open Go Go.RowKit Go.Sort
theorem heap_sortedI {w : World} {g n : Nat} {os : Array Obj} {cur : Array Value} {e : TypeId} {fr : Nat × Nat} (d : Array Int) (hb : w.heap[g]? = some (.cells cur e fr)) :
    (grow (putRow (Value.int .i64) (Sort.ahead w n) g 0 d) os).heap[g]? = some (.cells (putCells (Value.int .i64) 0 d cur) e fr) := by
  have hg : g < w.heap.size := (Array.getElem?_eq_some_iff.1 hb).1
  rw [heap_grow_old _ _ (by simpa using hg)]
  simp [putRow, mapBlock, Sort.ahead, Array.getElem?_modify, hb, onCells]
theorem heap_sorted_other {w : World} {g n : Nat} {os : Array Obj} (d : Array Int) (k : Nat) (hk : k ≠ g) (hk2 : k < w.heap.size) :
    (grow (putRow (Value.int .i64) (Sort.ahead w n) g 0 d) os).heap[k]? = w.heap[k]? := by
  rw [heap_grow_old _ _ (by simpa using hk2)]
  have : g ≠ k := fun e => hk e.symm
  simp [putRow, mapBlock, Sort.ahead, Array.getElem?_modify, this]
theorem take_putCellsI (cur : Array Value) (ts : List Int) (h : ts.length ≤ cur.size) : (putCells (Value.int .i64) 0 ts.toArray cur).toList.take ts.length = ts.map iv := by
  apply List.ext_getElem?
  intro j
  by_cases hj : j < ts.length
  · rw [List.getElem?_take_of_lt hj, Array.getElem?_toList]
    simp [putCells, hj, show j < cur.size by omega, iv]
  · rw [List.getElem?_take_eq_none (by omega), List.getElem?_eq_none (by simp; omega)]
theorem holds_of_osl {w : World} {g : Nat} {cur : Array Value} {e : TypeId} {zs : List Int} (hb : w.heap[g]? = some (.cells cur e (0, 0))) (ht : cur.toList.take zs.length = zs.map iv) : Holds (Value.int .i64) w g 0 zs.toArray := by
  intro j hj
  have hj' : j < zs.length := by simpa using hj
  refine ⟨?_, by simp [World.frozen?, hb]⟩
  have h1 : (cur.toList.take zs.length)[j]? = (zs.map iv)[j]? := by rw [ht]
  rw [List.getElem?_take_of_lt hj'] at h1
  simp only [World.cell?, hb, Nat.zero_add]
  simp only [Option.isSome_none, Bool.false_eq_true, if_false]
  rw [← Array.getElem?_toList, h1]
  simp [hj', iv]
theorem Sat.sorted {W w : World} {A : Assn} {E g c m : Nat} {zs ts : List Int} {os : Array Obj} (h : Sat W w (sep (osl E 1 (some ⟨g, 0, none⟩) zs.length c (zs.map iv)) A)) (hl : ts.length = zs.length) :
    Sat W (Go.Sort.grow (putRow (Value.int .i64) (Sort.ahead w m) g 0 ts.toArray) os) (sep (osl E 1 (some ⟨g, 0, none⟩) ts.length c (ts.map iv)) A) := by
  rcases h.osl_cases with ⟨e, -⟩ | ⟨g', cur, e, h1, h2, h3, h4, h5, h6⟩
  · cases e
  · cases e
    have h7 := h6.change (o' := .cells (putCells (Value.int .i64) 0 ts.toArray cur) E (0, 0)) (w' := Go.Sort.grow (putRow (Value.int .i64) (Sort.ahead w m) g 0 ts.toArray) os) rfl rfl rfl (heap_sortedI _ h6.blk_heap) (fun k hk hk2 => heap_sorted_other _ k hk hk2)
    exact h7.osl_mk ts.length c 1 (ts.map iv) (by simp) (by omega) h3 (by simp [putCells, h4]) (by rw [Nat.mul_one]; exact take_putCellsI cur ts (by omega))
end PA
namespace Go.Proofs.YtfapiopnjllnnaaGreatDoor
open Go.RowKit PA
attribute [local go_sem] Oper.semAt_some
def sortZ (zs : List Int) : List Int := zs.mergeSort fun x y => decide (x ≤ y)
theorem sortI_spec {W w : World} {A : Assn} (a : Option Addr) (c : Nat) (zs : List Int) (hz : zs.length < 4611686018427387904) (h : Sat W w (sep (osl 3 1 a zs.length c (zs.map iv)) A)) :
    Calls Tryz.prog 44 #[.slice a zs.length c] w fun e w' => e = .returned (.tuple #[]) ∧ Sat W w' (sep (osl 3 1 a zs.length c ((sortZ zs).map iv)) A) := by
  rcases h.osl_cases with ⟨rfl, h1, rfl, h2, h3⟩ | ⟨g, cur, rfl, h1, h2, h3, h4, h5, h6⟩
  · have hz0 : zs = [] := List.eq_nil_of_length_eq_zero h1
    subst hz0
    refine (AnyM.slices_Sort_int_none sortA none 0 w).mono ?_
    rintro e w' ⟨rfl, rfl⟩
    have e0 : sortZ [] = [] := by simp [sortZ]
    rw [e0]
    exact ⟨rfl, h⟩
  · have hH := holds_of_osl (zs := zs) h6.blk_heap (by rw [Nat.mul_one] at h5; exact h5)
    refine (AnyM.slices_Sort_int sortA g 0 c zs w hH h6.lt hz).mono ?_
    rintro e w' ⟨rfl, m, os, rfl⟩
    refine ⟨rfl, ?_⟩
    have hl : (sortZ zs).length = zs.length := by simp [sortZ]
    have := h.sorted (ts := sortZ zs) (m := m) (os := os) hl
    rw [hl] at this
    exact this
/-- What an iterator of ints gives. -/
def encI1 (x : Int) : Array Value := #[.int .i64 x]
def noA (_ : Int) : Assn := emp
theorem infoInt : (Tryz.prog.info? 3).map (fun i => (i.zero, i.size, i.bytes)) = some (some (.int .i64 0), 1, 8) := by kernel_rfl
set_option maxRecDepth 100000 in
set_option maxHeartbeats 2000000 in
theorem appendSeq_in {W w : World} {Pre Post : Assn} {S : List Int → Prop} (n N gf : Nat) (lb : Array Value) (hn : 2 ≤ n) (hN : N ≤ 1000000000) (eg : ∀ args w, (callFunc gf args).run Tryz.prog w = .ok (.enter gf args) w)
    (hseq : Gives Fence.wide (n - 1) Tryz.prog W gf lb encI1 noA N S Pre Post) (h : Sat W w Pre) :
    CallsIn Fence.wide n Tryz.prog 111 #[.slice none 0 0, .func (.func gf) #[] lb] w fun e w' => ∃ a c xs, e = .returned (.slice a xs.length c) ∧ S xs ∧ xs.length ≤ N ∧ Sat W w' (sep (osl 3 1 a xs.length c (xs.map iv)) Post) := by
  refine callsIn_of_wp_marks Tryz.func111 rfl trivial ?_ rfl
  simp only [Tryz.ntmps111, List.size_toArray, List.length_cons, List.length_nil, Nat.reduceAdd, Nat.reduceSub, Array.replicate_succ, Array.replicate_zero, List.push_toArray, List.append_toArray, List.nil_append, List.cons_append]
  obtain ⟨B, hB⟩ : ∃ B, B = w.heap.size := ⟨_, rfl⟩
  have h1 := (h.osl_nil 3 1).alloc (.cells #[.slice none 0 0] 22)
  rw [← hB] at h1
  obtain ⟨w1, hw1⟩ : ∃ w1, w1 = w.alloc (.cells #[.slice none 0 0] 22) := ⟨_, rfl⟩
  rw [← hw1] at h1
  have HB := Lib.hid hB
  have HW1 := Lib.hid hw1
  clear hB hw1 h
  gi_wp2_with fail
  rw [← HW1.out, ← HB.out]
  refine wpIn_range (F := Fence.wide) (W := W) rfl (by omega) (gf := gf) (lb := lb) rfl trivial eg (encs := encI1) (fun _ => rfl) hseq
    (fun xs => ex fun p : Option Addr × Nat => sep (fact (xs.length ≤ N)) (sep (blk B (.cells #[.slice p.1 xs.length p.2] 22 (0, 0))) (osl 3 1 p.1 xs.length p.2 (xs.map iv)))) ?_
    (fun x => { tmps := #[.slice none 0 0, .func (.func gf) #[] lb, .pointer (some ⟨B, 0, none⟩), undef, .slice none 0 0, .int .i64 x, .func (.func gf) #[] lb, .int .i64 x, undef, undef, undef, undef, undef], defers := [] }) ?assign ?body ?done
  · rw [ex_sep, Sat.ex]
    refine ⟨(none, 0), ?_⟩
    rw [sep_assoc]
    refine Sat.fact.2 ⟨Nat.zero_le _, ?_⟩
    show Sat W w1 (sep (sep (blk B (.cells #[.slice none 0 0] 22 (0, 0))) (osl 3 1 none 0 0 [])) Pre)
    simpa only [sep_comm, sep_lcomm, sep_assoc] using h1
  case assign =>
    intro lp x w' K hK
    dsimp only [encI1]
    gi_wp2
    exact hK
  case body =>
    intro lp pre x w' A' hlen hS
    rw [ex_sep, Sat.ex] at hS
    obtain ⟨⟨oa, oc⟩, hS⟩ := hS
    dsimp only at hS
    rw [sep_assoc] at hS
    have hS2 := (Sat.fact.1 hS).2
    obtain ⟨pl, hpl⟩ : ∃ pl, pl = pre.length := ⟨_, rfl⟩
    rw [← hpl] at hS2 hlen
    have h2 : Sat W w' (sep (blk B (.cells #[.slice oa pl oc] 22 (0, 0))) (sep (osl 3 1 oa pl oc (pre.map iv)) A')) := by
      have : Sat W w' (sep (emp) (sep (blk B (.cells #[.slice oa pl oc] 22 (0, 0))) (sep (osl 3 1 oa pl oc (pre.map iv)) A'))) := by simpa only [noA, sep_comm, sep_lcomm, sep_assoc] using hS2
      rwa [emp_sep] at this
    have hbox : w'.cell? ⟨B, 0, none⟩ = some (.slice oa pl oc) := h2.cell 0
    have h3 := (h2.alloc (.cells #[.int .i64 x] 3)).p2
    have HPL := Lib.hid hpl
    clear hS hS2 h2 hpl
    gi_wp2_with (gi_at_builtin; refine wpli_append_osl rfl (.tmp 8) (.tmp 10) 22 rfl 3 1 8 (.int .i64 0) Tryz.underlying22 infoInt rfl rfl h3 rfl [.int .i64 x] rfl (by simp) (by intro b hb; cases hb; exact new_src _ [_] _) (by simp [Value.oneCell']) (by omega) (by unfold maxLen; omega) ?_)
    intro oa2 oc2 w2 h4
    have h5 := h4.p2
    have hf := h5.unfrozen 0
    have hc := h5.cell 0
    have h6 := h5.setCell 0 (.slice oa2 (pl + 1) oc2)
    clear h3 h4 h5 hbox
    gi_wp2_with fail
    show Sat W _ _
    have e : (pre ++ [x]).length = pl + 1 := by rw [List.length_append, ← HPL.out]; rfl
    rw [ex_sep, Sat.ex]
    refine ⟨(oa2, oc2), ?_⟩
    dsimp only
    rw [sep_assoc]
    refine Sat.fact.2 ⟨by rw [e]; omega, ?_⟩
    rw [e, List.map_append]
    show Sat W _ (sep (sep (blk B (.cells #[.slice oa2 (pl + 1) oc2] 22 (0, 0))) (osl 3 1 oa2 (pl + 1) oc2 (pre.map iv ++ [.int .i64 x]))) A')
    have h7 := h6.p2.drop
    simpa only [sep_comm, sep_lcomm, sep_assoc, List.setIfInBounds_toArray, List.set_cons_zero] using h7
  case done =>
    intro D xs w' hS hS'
    have h2 : Sat W w' (sep (ex _) _) := hS'.p1
    rw [ex_sep, Sat.ex] at h2
    obtain ⟨⟨oa, oc⟩, h2⟩ := h2
    dsimp only at h2
    rw [sep_assoc] at h2
    obtain ⟨hle, h3⟩ := Sat.fact.1 h2
    obtain ⟨ll, hll⟩ : ∃ ll, ll = xs.length := ⟨_, rfl⟩
    rw [← hll] at h3
    have h4 : Sat W w' (sep (blk B (.cells #[.slice oa ll oc] 22 (0, 0))) (sep (blk D (.deferred (some []))) (sep (osl 3 1 oa ll oc (xs.map iv)) Post))) := by simpa only [sep_comm, sep_lcomm, sep_assoc] using h3
    have hc1 : w'.cell? ⟨B, 0, none⟩ = some (.slice oa ll oc) := h4.cell 0
    have hD := h4.p1.blk_heap
    have HS := Lib.hid hS
    have HLL := Lib.hid hll
    have HLE := Lib.hid hle
    clear hS hS' h2 h3 hll hle
    gi_wp2_with fail
    refine ⟨by simp, .inl ⟨_, _, rfl, run_takeDeferred hD, ?_⟩⟩
    refine ⟨_, results_tmp rfl _ _ _, oa, oc, xs, by rw [← HLL.out]; rfl, HS.out, HLE.out, ?_⟩
    rw [← HLL.out]
    exact (h4.p1.putObj (.deferred none)).drop.drop
set_option maxRecDepth 100000 in
theorem collect_in {W w : World} {Pre Post : Assn} {S : List Int → Prop} (n N gf : Nat) (lb : Array Value) (hn : 3 ≤ n) (hN : N ≤ 1000000000) (eg : ∀ args w, (callFunc gf args).run Tryz.prog w = .ok (.enter gf args) w)
    (hseq : Gives Fence.wide (n - 1 - 1) Tryz.prog W gf lb encI1 noA N S Pre Post) (h : Sat W w Pre) :
    CallsIn Fence.wide n Tryz.prog 81 #[.func (.func gf) #[] lb] w fun e w' => ∃ a c xs, e = .returned (.slice a xs.length c) ∧ S xs ∧ xs.length ≤ N ∧ Sat W w' (sep (osl 3 1 a xs.length c (xs.map iv)) Post) := by
  refine callsIn_of_wp Tryz.func81 rfl trivial ?_ rfl
  simp only [Tryz.ntmps81, List.size_toArray, List.length_cons, List.length_nil, Nat.reduceAdd, Nat.reduceSub, Array.replicate_succ, Array.replicate_zero, List.push_toArray, List.append_toArray, List.nil_append, List.cons_append]
  have h1 := appendSeq_in (n - 1) N gf lb (by omega) hN eg hseq h
  have H1 := Lib.hid h1
  clear h1 h hseq
  gi_wp2_with fail
  refine ⟨trivial, fun _ => by omega, H1.out.mono ?_⟩
  rintro e w' ⟨a, c, xs, rfl, h2, h3, h4⟩
  have HH := Lib.hid (And.intro h2 h3)
  obtain ⟨l, hl⟩ : ∃ l, l = xs.length := ⟨_, rfl⟩
  rw [← hl] at h4 ⊢
  have HL := Lib.hid hl
  clear h2 h3 hl
  gi_wp2_with fail
  go_ret
  exact ⟨a, c, xs, by rw [← HL.out]; rfl, HH.out.1, HH.out.2, by rw [← HL.out]; exact h4⟩
set_option maxRecDepth 100000 in
theorem sorted_in {W w : World} {Pre Post : Assn} {S : List Int → Prop} (n N gf : Nat) (lb : Array Value) (hn : 4 ≤ n) (hN : N ≤ 1000000000) (eg : ∀ args w, (callFunc gf args).run Tryz.prog w = .ok (.enter gf args) w)
    (hseq : Gives Fence.wide (n - 1 - 1 - 1) Tryz.prog W gf lb encI1 noA N S Pre Post) (h : Sat W w Pre) :
    CallsIn Fence.wide n Tryz.prog 59 #[.func (.func gf) #[] lb] w fun e w' => ∃ a c xs, e = .returned (.slice a xs.length c) ∧ S xs ∧ xs.length ≤ N ∧ Sat W w' (sep (osl 3 1 a xs.length c ((sortZ xs).map iv)) Post) := by
  refine callsIn_of_wp Tryz.func59 rfl trivial ?_ rfl
  simp only [Tryz.ntmps59, List.size_toArray, List.length_cons, List.length_nil, Nat.reduceAdd, Nat.reduceSub, Array.replicate_succ, Array.replicate_zero, List.push_toArray, List.append_toArray, List.nil_append, List.cons_append]
  have h1 := collect_in (n - 1) N gf lb (by omega) hN eg hseq h
  have H1 := Lib.hid h1
  clear h1 h hseq
  gi_wp2_with fail
  refine ⟨trivial, fun _ => by omega, H1.out.mono ?_⟩
  rintro e w' ⟨a, c, xs, rfl, h2, h3, h4⟩
  have h5 := sortI_spec a c xs (by omega) h4
  have HH := Lib.hid (And.intro h2 h3)
  obtain ⟨l, hl⟩ : ∃ l, l = xs.length := ⟨_, rfl⟩
  rw [← hl] at h5 ⊢
  have HL := Lib.hid hl
  have H5 := Lib.hid h5
  clear h2 h3 h4 h5 hl
  gi_wp2_with fail
  refine ⟨trivial, fun _ => by omega, (callsIn_wide.2 H5.out).mono ?_⟩
  rintro e w' ⟨rfl, h6⟩
  clear H5
  gi_wp2_with fail
  go_ret
  exact ⟨a, c, xs, by rw [← HL.out]; rfl, HH.out.1, HH.out.2, by rw [← HL.out]; exact h6⟩
/-- The keys of a map, ascending. -/
def KeysOf (f : Int → Option Value) (ks : List Int) : Prop := ks.Pairwise (· < ·) ∧ ∀ k, k ∈ ks ↔ (f k).isSome = true
theorem keysOf_sort {f : Int → Option Value} {xs : List Int} (h1 : xs.Nodup) (h2 : ∀ k, k ∈ xs ↔ (f k).isSome = true) : KeysOf f (sortZ xs) ∧ (sortZ xs).length = xs.length := by
  have hp : (sortZ xs).Perm xs := List.mergeSort_perm _ _
  have hs : (sortZ xs).Pairwise (fun a b => decide (a ≤ b) = true) := List.pairwise_mergeSort (fun a b c h1 h2 => by simp at *; omega) (fun a b => by simp; omega) xs
  have hn : (sortZ xs).Nodup := hp.nodup_iff.2 h1
  refine ⟨⟨?_, fun k => by rw [hp.mem_iff]; exact h2 k⟩, hp.length_eq⟩
  have hboth := List.Pairwise.and hs hn
  exact hboth.imp fun h => by simp at h; omega
end Go.Proofs.YtfapiopnjllnnaaGreatDoor
