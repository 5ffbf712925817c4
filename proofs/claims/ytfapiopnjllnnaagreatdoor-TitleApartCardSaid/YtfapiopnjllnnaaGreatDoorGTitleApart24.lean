/- slices.Sort, AppendSeq, Collect, Sorted of ints, said with Sat. -/
import Derived.RangeFuncBound
import Derived.RangeFuncCalls
import Derived.RangeFuncLeaves
import Derived.OwnWalkIn
import Derived.TacticsInMore
import Derived.LoopNIn
import Derived.LoopIn
import Derived.Test.YtfapiopnjllnnaaGreatDoorSort
import Derived.Test.YtfapiopnjllnnaaGreatDoorRows
import Derived.Test.YtfapiopnjllnnaaGreatDoorGTitleApart23
import Derived.Test.YtfapiopnjllnnaaGreatDoorGTitleApart7
namespace PA
open Go Go.RowKit Go.Sort
theorem heap_sortedI {w : World} {g n : Nat} {os : Array Obj} {cur : Array Value} {e : TypeId} {fr : Nat × Nat} (d : Array Int) (hb : w.heap[g]? = some (.cells cur e fr)) :
    (grow (putRow (Value.int .i64) (Sort.ahead w n) g 0 d) os).heap[g]? = some (.cells (putCells (Value.int .i64) 0 d cur) e fr) := by
  have hg : g < w.heap.size := (Array.getElem?_eq_some_iff.1 hb).1
  rw [heap_grow_old _ _ (by simpa using hg)]
  simp [putRow, mapBlock, Sort.ahead, Array.getElem?_modify, hb, onCells]
theorem heap_sorted_other {w : World} {g n : Nat} {os : Array Obj} (d : Array Int) (k : Nat) (hk : k ≠ g) (hk2 : k < w.heap.size) :
    (grow (putRow (Value.int .i64) (Sort.ahead w n) g 0 d) os).heap[k]? = w.heap[k]? := by
  rw [heap_grow_old _ _ (by simpa using hk2)]
  have : g ≠ k := fun e => hk e.symm
  simp [putRow, mapBlock, Sort.ahead, Array.getElem?_modify, this]
theorem take_putCellsI (cur : Array Value) (ts : List Int) (h : ts.length ≤ cur.size) : (putCells (Value.int .i64) 0 ts.toArray cur).toList.take ts.length = ts.map iv := by
  apply List.ext_getElem?
  intro j
  by_cases hj : j < ts.length
  · rw [List.getElem?_take_of_lt hj, Array.getElem?_toList]
    simp [putCells, hj, show j < cur.size by omega, iv]
  · rw [List.getElem?_take_eq_none (by omega), List.getElem?_eq_none (by simp; omega)]
theorem holds_of_osl {w : World} {g : Nat} {cur : Array Value} {e : TypeId} {zs : List Int} (hb : w.heap[g]? = some (.cells cur e (0, 0))) (ht : cur.toList.take zs.length = zs.map iv) : Holds (Value.int .i64) w g 0 zs.toArray := by
  intro j hj
  have hj' : j < zs.length := by simpa using hj
  refine ⟨?_, by simp [World.frozen?, hb]⟩
  have h1 : (cur.toList.take zs.length)[j]? = (zs.map iv)[j]? := by rw [ht]
  rw [List.getElem?_take_of_lt hj'] at h1
  simp only [World.cell?, hb, Nat.zero_add]
  simp only [Option.isSome_none, Bool.false_eq_true, if_false]
  rw [← Array.getElem?_toList, h1]
  simp [hj', iv]
theorem Sat.sorted {W w : World} {A : Assn} {E g c m : Nat} {zs ts : List Int} {os : Array Obj} (h : Sat W w (sep (osl E 1 (some ⟨g, 0, none⟩) zs.length c (zs.map iv)) A)) (hl : ts.length = zs.length) :
    Sat W (Go.Sort.grow (putRow (Value.int .i64) (Sort.ahead w m) g 0 ts.toArray) os) (sep (osl E 1 (some ⟨g, 0, none⟩) ts.length c (ts.map iv)) A) := by
  rcases h.osl_cases with ⟨e, -⟩ | ⟨g', cur, e, h1, h2, h3, h4, h5, h6⟩
  · cases e
  · cases e
    have h7 := h6.change (o' := .cells (putCells (Value.int .i64) 0 ts.toArray cur) E (0, 0)) (w' := Go.Sort.grow (putRow (Value.int .i64) (Sort.ahead w m) g 0 ts.toArray) os) rfl rfl rfl (heap_sortedI _ h6.blk_heap) (fun k hk hk2 => heap_sorted_other _ k hk hk2)
    exact h7.osl_mk ts.length c 1 (ts.map iv) (by simp) (by omega) h3 (by simp [putCells, h4]) (by rw [Nat.mul_one]; exact take_putCellsI cur ts (by omega))
end PA
namespace Go.Proofs.YtfapiopnjllnnaaGreatDoor
open Go.RowKit PA
attribute [local go_sem] Oper.semAt_some
def sortZ (zs : List Int) : List Int := zs.mergeSort fun x y => decide (x ≤ y)
theorem sortI_spec {W w : World} {A : Assn} (a : Option Addr) (c : Nat) (zs : List Int) (hz : zs.length < 4611686018427387904) (h : Sat W w (sep (osl 3 1 a zs.length c (zs.map iv)) A)) :
    Calls Tryz.prog 44 #[.slice a zs.length c] w fun e w' => e = .returned (.tuple #[]) ∧ Sat W w' (sep (osl 3 1 a zs.length c ((sortZ zs).map iv)) A) := by
  rcases h.osl_cases with ⟨rfl, h1, rfl, h2, h3⟩ | ⟨g, cur, rfl, h1, h2, h3, h4, h5, h6⟩
  · have hz0 : zs = [] := List.eq_nil_of_length_eq_zero h1
    subst hz0
    refine (AnyM.slices_Sort_int_none sortA none 0 w).mono ?_
    rintro e w' ⟨rfl, rfl⟩
    have e0 : sortZ [] = [] := by simp [sortZ]
    rw [e0]
    exact ⟨rfl, h⟩
  · have hH := holds_of_osl (zs := zs) h6.blk_heap (by rw [Nat.mul_one] at h5; exact h5)
    refine (AnyM.slices_Sort_int sortA g 0 c zs w hH h6.lt hz).mono ?_
    rintro e w' ⟨rfl, m, os, rfl⟩
    refine ⟨rfl, ?_⟩
    have hl : (sortZ zs).length = zs.length := by simp [sortZ]
    have := h.sorted (ts := sortZ zs) (m := m) (os := os) hl
    rw [hl] at this
    exact this
/-- What an iterator of ints gives. -/
def encI1 (x : Int) : Array Value := #[.int .i64 x]
def noA (_ : Int) : Assn := emp
theorem infoInt : (Tryz.prog.info? 3).map (fun i => (i.zero, i.size, i.bytes)) = some (some (.int .i64 0), 1, 8) := by kernel_rfl
set_option maxRecDepth 100000 in
set_option maxHeartbeats 2000000 in
theorem appendSeq_in {W w : World} {Pre Post : Assn} {S : List Int → Prop} (n N gf : Nat) (lb : Array Value) (hn : 2 ≤ n) (hN : N ≤ 1000000000) (eg : ∀ args w, (callFunc gf args).run Tryz.prog w = .ok (.enter gf args) w)
    (hseq : Gives Fence.wide (n - 1) Tryz.prog W gf lb encI1 noA N S Pre Post) (h : Sat W w Pre) :
    CallsIn Fence.wide n Tryz.prog 111 #[.slice none 0 0, .func (.func gf) #[] lb] w fun e w' => ∃ a c xs, e = .returned (.slice a xs.length c) ∧ S xs ∧ xs.length ≤ N ∧ Sat W w' (sep (osl 3 1 a xs.length c (xs.map iv)) Post) := by
  refine callsIn_of_wp_marks Tryz.func111 rfl trivial ?_ rfl
  simp only [Tryz.ntmps111, List.size_toArray, List.length_cons, List.length_nil, Nat.reduceAdd, Nat.reduceSub, Array.replicate_succ, Array.replicate_zero, List.push_toArray, List.append_toArray, List.nil_append, List.cons_append]
  obtain ⟨B, hB⟩ : ∃ B, B = w.heap.size := ⟨_, rfl⟩
  have h1 := (h.osl_nil 3 1).alloc (.cells #[.slice none 0 0] 22)
  rw [← hB] at h1
  obtain ⟨w1, hw1⟩ : ∃ w1, w1 = w.alloc (.cells #[.slice none 0 0] 22) := ⟨_, rfl⟩
  rw [← hw1] at h1
  have HB := Lib.hid hB
  have HW1 := Lib.hid hw1
  clear hB hw1 h
  gi_wp2_with fail
  rw [← HW1.out, ← HB.out]
  refine wpIn_range (F := Fence.wide) (W := W) rfl (by omega) (gf := gf) (lb := lb) rfl trivial eg (encs := encI1) (fun _ => rfl) hseq
    (fun xs => ex fun p : Option Addr × Nat => sep (fact (xs.length ≤ N)) (sep (blk B (.cells #[.slice p.1 xs.length p.2] 22 (0, 0))) (osl 3 1 p.1 xs.length p.2 (xs.map iv)))) ?_
    (fun x => { tmps := #[.slice none 0 0, .func (.func gf) #[] lb, .pointer (some ⟨B, 0, none⟩), undef, .slice none 0 0, .int .i64 x, .func (.func gf) #[] lb, .int .i64 x, undef, undef, undef, undef, undef], defers := [] }) ?assign ?body ?done
  · rw [ex_sep, Sat.ex]
    refine ⟨(none, 0), ?_⟩
    rw [sep_assoc]
    refine Sat.fact.2 ⟨Nat.zero_le _, ?_⟩
    show Sat W w1 (sep (sep (blk B (.cells #[.slice none 0 0] 22 (0, 0))) (osl 3 1 none 0 0 [])) Pre)
    simpa only [sep_comm, sep_lcomm, sep_assoc] using h1
  case assign =>
    intro lp x w' K hK
    dsimp only [encI1]
    gi_wp2
    exact hK
  case body =>
    intro lp pre x w' A' hlen hS
    rw [ex_sep, Sat.ex] at hS
    obtain ⟨⟨oa, oc⟩, hS⟩ := hS
    dsimp only at hS
    rw [sep_assoc] at hS
    have hS2 := (Sat.fact.1 hS).2
    obtain ⟨pl, hpl⟩ : ∃ pl, pl = pre.length := ⟨_, rfl⟩
    rw [← hpl] at hS2 hlen
    have h2 : Sat W w' (sep (blk B (.cells #[.slice oa pl oc] 22 (0, 0))) (sep (osl 3 1 oa pl oc (pre.map iv)) A')) := by
      have : Sat W w' (sep (emp) (sep (blk B (.cells #[.slice oa pl oc] 22 (0, 0))) (sep (osl 3 1 oa pl oc (pre.map iv)) A'))) := by simpa only [noA, sep_comm, sep_lcomm, sep_assoc] using hS2
      rwa [emp_sep] at this
    have hbox : w'.cell? ⟨B, 0, none⟩ = some (.slice oa pl oc) := h2.cell 0
    have h3 := (h2.alloc (.cells #[.int .i64 x] 3)).p2
    have HPL := Lib.hid hpl
    clear hS hS2 h2 hpl
    gi_wp2_with (gi_at_builtin; refine wpli_append_osl rfl (.tmp 8) (.tmp 10) 22 rfl 3 1 8 (.int .i64 0) Tryz.underlying22 infoInt rfl rfl h3 rfl [.int .i64 x] rfl (by simp) (by intro b hb; cases hb; exact new_src _ [_] _) (by simp [Value.oneCell']) (by omega) (by unfold maxLen; omega) ?_)
    intro oa2 oc2 w2 h4
    have h5 := h4.p2
    have hf := h5.unfrozen 0
    have hc := h5.cell 0
    have h6 := h5.setCell 0 (.slice oa2 (pl + 1) oc2)
    clear h3 h4 h5 hbox
    gi_wp2_with fail
    show Sat W _ _
    have e : (pre ++ [x]).length = pl + 1 := by rw [List.length_append, ← HPL.out]; rfl
    rw [ex_sep, Sat.ex]
    refine ⟨(oa2, oc2), ?_⟩
    dsimp only
    rw [sep_assoc]
    refine Sat.fact.2 ⟨by rw [e]; omega, ?_⟩
    rw [e, List.map_append]
    show Sat W _ (sep (sep (blk B (.cells #[.slice oa2 (pl + 1) oc2] 22 (0, 0))) (osl 3 1 oa2 (pl + 1) oc2 (pre.map iv ++ [.int .i64 x]))) A')
    have h7 := h6.p2.drop
    simpa only [sep_comm, sep_lcomm, sep_assoc, List.setIfInBounds_toArray, List.set_cons_zero] using h7
  case done =>
    intro D xs w' hS hS'
    have h2 : Sat W w' (sep (ex _) _) := hS'.p1
    rw [ex_sep, Sat.ex] at h2
    obtain ⟨⟨oa, oc⟩, h2⟩ := h2
    dsimp only at h2
    rw [sep_assoc] at h2
    obtain ⟨hle, h3⟩ := Sat.fact.1 h2
    obtain ⟨ll, hll⟩ : ∃ ll, ll = xs.length := ⟨_, rfl⟩
    rw [← hll] at h3
    have h4 : Sat W w' (sep (blk B (.cells #[.slice oa ll oc] 22 (0, 0))) (sep (blk D (.deferred (some []))) (sep (osl 3 1 oa ll oc (xs.map iv)) Post))) := by simpa only [sep_comm, sep_lcomm, sep_assoc] using h3
    have hc1 : w'.cell? ⟨B, 0, none⟩ = some (.slice oa ll oc) := h4.cell 0
    have hD := h4.p1.blk_heap
    have HS := Lib.hid hS
    have HLL := Lib.hid hll
    have HLE := Lib.hid hle
    clear hS hS' h2 h3 hll hle
    gi_wp2_with fail
    refine ⟨by simp, .inl ⟨_, _, rfl, run_takeDeferred hD, ?_⟩⟩
    refine ⟨_, results_tmp rfl _ _ _, oa, oc, xs, by rw [← HLL.out]; rfl, HS.out, HLE.out, ?_⟩
    rw [← HLL.out]
    exact (h4.p1.putObj (.deferred none)).drop.drop
set_option maxRecDepth 100000 in
theorem collect_in {W w : World} {Pre Post : Assn} {S : List Int → Prop} (n N gf : Nat) (lb : Array Value) (hn : 3 ≤ n) (hN : N ≤ 1000000000) (eg : ∀ args w, (callFunc gf args).run Tryz.prog w = .ok (.enter gf args) w)
    (hseq : Gives Fence.wide (n - 1 - 1) Tryz.prog W gf lb encI1 noA N S Pre Post) (h : Sat W w Pre) :
    CallsIn Fence.wide n Tryz.prog 81 #[.func (.func gf) #[] lb] w fun e w' => ∃ a c xs, e = .returned (.slice a xs.length c) ∧ S xs ∧ xs.length ≤ N ∧ Sat W w' (sep (osl 3 1 a xs.length c (xs.map iv)) Post) := by
  refine callsIn_of_wp Tryz.func81 rfl trivial ?_ rfl
  simp only [Tryz.ntmps81, List.size_toArray, List.length_cons, List.length_nil, Nat.reduceAdd, Nat.reduceSub, Array.replicate_succ, Array.replicate_zero, List.push_toArray, List.append_toArray, List.nil_append, List.cons_append]
  have h1 := appendSeq_in (n - 1) N gf lb (by omega) hN eg hseq h
  have H1 := Lib.hid h1
  clear h1 h hseq
  gi_wp2_with fail
  refine ⟨trivial, fun _ => by omega, H1.out.mono ?_⟩
  rintro e w' ⟨a, c, xs, rfl, h2, h3, h4⟩
  have HH := Lib.hid (And.intro h2 h3)
  obtain ⟨l, hl⟩ : ∃ l, l = xs.length := ⟨_, rfl⟩
  rw [← hl] at h4 ⊢
  have HL := Lib.hid hl
  clear h2 h3 hl
  gi_wp2_with fail
  go_ret
  exact ⟨a, c, xs, by rw [← HL.out]; rfl, HH.out.1, HH.out.2, by rw [← HL.out]; exact h4⟩
set_option maxRecDepth 100000 in
theorem sorted_in {W w : World} {Pre Post : Assn} {S : List Int → Prop} (n N gf : Nat) (lb : Array Value) (hn : 4 ≤ n) (hN : N ≤ 1000000000) (eg : ∀ args w, (callFunc gf args).run Tryz.prog w = .ok (.enter gf args) w)
    (hseq : Gives Fence.wide (n - 1 - 1 - 1) Tryz.prog W gf lb encI1 noA N S Pre Post) (h : Sat W w Pre) :
    CallsIn Fence.wide n Tryz.prog 59 #[.func (.func gf) #[] lb] w fun e w' => ∃ a c xs, e = .returned (.slice a xs.length c) ∧ S xs ∧ xs.length ≤ N ∧ Sat W w' (sep (osl 3 1 a xs.length c ((sortZ xs).map iv)) Post) := by
  refine callsIn_of_wp Tryz.func59 rfl trivial ?_ rfl
  simp only [Tryz.ntmps59, List.size_toArray, List.length_cons, List.length_nil, Nat.reduceAdd, Nat.reduceSub, Array.replicate_succ, Array.replicate_zero, List.push_toArray, List.append_toArray, List.nil_append, List.cons_append]
  have h1 := collect_in (n - 1) N gf lb (by omega) hN eg hseq h
  have H1 := Lib.hid h1
  clear h1 h hseq
  gi_wp2_with fail
  refine ⟨trivial, fun _ => by omega, H1.out.mono ?_⟩
  rintro e w' ⟨a, c, xs, rfl, h2, h3, h4⟩
  have h5 := sortI_spec a c xs (by omega) h4
  have HH := Lib.hid (And.intro h2 h3)
  obtain ⟨l, hl⟩ : ∃ l, l = xs.length := ⟨_, rfl⟩
  rw [← hl] at h5 ⊢
  have HL := Lib.hid hl
  have H5 := Lib.hid h5
  clear h2 h3 h4 h5 hl
  gi_wp2_with fail
  refine ⟨trivial, fun _ => by omega, (callsIn_wide.2 H5.out).mono ?_⟩
  rintro e w' ⟨rfl, h6⟩
  clear H5
  gi_wp2_with fail
  go_ret
  exact ⟨a, c, xs, by rw [← HL.out]; rfl, HH.out.1, HH.out.2, by rw [← HL.out]; exact h6⟩
/-- The keys of a map, ascending. -/
def KeysOf (f : Int → Option Value) (ks : List Int) : Prop := ks.Pairwise (· < ·) ∧ ∀ k, k ∈ ks ↔ (f k).isSome = true
theorem keysOf_sort {f : Int → Option Value} {xs : List Int} (h1 : xs.Nodup) (h2 : ∀ k, k ∈ xs ↔ (f k).isSome = true) : KeysOf f (sortZ xs) ∧ (sortZ xs).length = xs.length := by
  have hp : (sortZ xs).Perm xs := List.mergeSort_perm _ _
  have hs : (sortZ xs).Pairwise (fun a b => decide (a ≤ b) = true) := List.pairwise_mergeSort (fun a b c h1 h2 => by simp at *; omega) (fun a b => by simp; omega) xs
  have hn : (sortZ xs).Nodup := hp.nodup_iff.2 h1
  refine ⟨⟨?_, fun k => by rw [hp.mem_iff]; exact h2 k⟩, hp.length_eq⟩
  have hboth := List.Pairwise.and hs hn
  exact hboth.imp fun h => by simp at h; omega
end Go.Proofs.YtfapiopnjllnnaaGreatDoor
/- maps.Keys of a map keyed by ints, and its sorted keys. -/
namespace Go.Proofs.YtfapiopnjllnnaaGreatDoor
open Go.RowKit PA
attribute [local go_sem] Oper.semAt_some
set_option maxRecDepth 100000 in
set_option maxHeartbeats 2000000 in
theorem keys1_gives {W : World} {A : Assn} (n : Nat) (hn : 1 ≤ n) (Bs b : Nat) (f : Int → Option Value) (nf : Nat) :
    Gives Fence.wide n Tryz.prog W 82 #[.pointer (some ⟨Bs, 0, none⟩)] encI1 noA nf (fun xs => xs.Nodup ∧ ∀ k, k ∈ xs ↔ (f k).isSome = true)
      (sep (blk Bs (.cells #[.map (some b)] 88 (0, 0))) (sep (bmap b f nf) A)) (sep (bmap b f nf) A) := by
  intro lp R w hY h0
  have HY := Lib.hid hY
  clear hY
  have c0 : w.cell? ⟨Bs, 0, none⟩ = some (.map (some b)) := h0.p1.cell 0
  obtain ⟨w1, hrun, h1⟩ := run_range_bmap (P := Tryz.prog) Tryz.underlying88 h0.p2
  obtain ⟨r, hr⟩ : ∃ r, r = w.heap.size := ⟨_, rfl⟩
  rw [← hr] at hrun h1
  have h2 : Sat W w1 (sep (R []) (sep (rng b r f nf (fun k => (f k).isSome) nf) A)) := by
    have := h1.p2.drop
    simpa only [sep_comm, sep_lcomm, sep_assoc] using this
  clear h0 h1 hr
  refine callsIn_of_wp Tryz.func82 rfl trivial ?_ rfl
  simp only [Tryz.ntmps82, List.size_toArray, List.length_cons, List.length_nil, Nat.reduceAdd, Nat.reduceSub, Array.replicate_succ, Array.replicate_zero, List.push_toArray, List.append_toArray, List.nil_append, List.cons_append]
  gi_wp2_with fail
  gi_loopw [] (fun wr => ∃ (pre : List Int) (cnt : Nat) (lf : Int → Bool), pre.Nodup ∧ (∀ k, k ∈ pre ↔ (f k).isSome = true ∧ lf k = false) ∧ (∀ k, lf k = true → (f k).isSome = true) ∧ pre.length + cnt ≤ nf ∧ Sat W wr (sep (R pre) (sep (rng b r f nf lf cnt) A))) (fun wr => wr.rangeLeft b r)
  case atStart => exact ⟨[], nf, _, List.nodup_nil, fun k => ⟨fun h => (by cases h), fun h => (by rw [h.1] at h; exact absurd h.2 (by decide))⟩, fun k hk => hk, by simp, h2⟩
  case round =>
    clear h2 hrun c0
    obtain ⟨pre, cnt, lf, hnd, hmem, hlf, hlen, hS⟩ := hrel
    have hcnt := hS.p1.rng_left
    rcases run_next_rng (P := Tryz.prog) 0 hS.p1 with ⟨hno, hrun⟩ | ⟨k, v, w2, cnt2, hlk, hfk, hlt, hrun, hen, hS2⟩
    · have HH := Lib.hid (And.intro hnd (And.intro hmem hno))
      clear hnd hmem hlf hlen hcnt hno
      gi_wp2_with fail
      go_end0
      refine ⟨⟨_, rfl⟩, pre, ⟨HH.out.1, fun k => ?_⟩, ?_⟩
      · rw [HH.out.2.1 k, HH.out.2.2 k]; simp
      · have := hS.p1.rng_end
        exact this.p1
    · have hx : Sat W w2 (sep (R pre) (sep (noA k) (sep (rng b r f nf (fun z => lf z && z != k) cnt2) A))) := by
        show Sat W w2 (sep (R pre) (sep emp (sep (rng b r f nf (fun z => lf z && z != k) cnt2) A)))
        rw [emp_sep]
        exact hS2.p1
      obtain ⟨fn, tmps, assign, body, hy, hR⟩ := HY.out pre k w2 _ (by omega) hx
      dsimp only [encI1] at hy
      have HH := Lib.hid (And.intro hnd (And.intro hmem (And.intro hlf (And.intro hlen (And.intro hcnt (And.intro hlt hlk))))))
      clear hnd hmem hlf hlen hcnt hlt hlk hfk hS hS2 hx
      gi_wp2_with fail
      refine hR.mono ?_
      rintro e' w5 ⟨rfl, h9⟩
      clear hR hy hrun hen
      obtain ⟨q1, q2, q3, q4, q5, q6, q7⟩ := HH.out
      gi_wp2_with fail
      go_roundw
      case rel =>
        refine ⟨pre ++ [k], cnt2, _, ?_, fun z => ?_, fun z hz => ?_, ?_, h9⟩
        · refine List.nodup_append.2 ⟨q1, by simp, fun x hx y hy => ?_⟩
          rw [List.mem_singleton.1 hy]
          intro e
          subst e
          have := ((q2 x).1 hx).2
          rw [q7] at this; cases this
        · by_cases hzk : z = k
          · subst hzk
            simp [q3 z q7]
          · have : (z != k) = true := by simp [hzk]
            rw [List.mem_append, List.mem_singleton, this, Bool.and_true, ← q2 z]
            simp [hzk]
        · simp at hz
          exact q3 z hz.1
        · rw [List.length_append, List.length_singleton]; omega
      case measure => rw [h9.p1.rng_left, q5]; exact q6
theorem keys_in (n : Nat) (b : Nat) (w : World) :
    CallsIn Fence.wide n Tryz.prog 60 #[.map (some b)] w fun e w' => e = .returned (.func (.func 82) #[] #[.pointer (some ⟨w.heap.size, 0, none⟩)]) ∧ w' = w.alloc (.cells #[.map (some b)] 88) := by
  refine callsIn_of_wp Tryz.func60 rfl trivial ?_ rfl
  simp only [Tryz.ntmps60, List.size_toArray, List.length_cons, List.length_nil, Nat.reduceAdd, Nat.reduceSub, Array.replicate_succ, Array.replicate_zero, List.push_toArray, List.append_toArray, List.nil_append, List.cons_append]
  gi_wp2_with fail
  go_ret
  exact ⟨rfl, rfl⟩
theorem keys_spec {W w : World} {A : Assn} (b : Nat) (f : Int → Option Value) (nf : Nat) (h : Sat W w (sep (bmap b f nf) A)) :
    Calls Tryz.prog 60 #[.map (some b)] w fun e w' => e = .returned (.func (.func 82) #[] #[.pointer (some ⟨w.heap.size, 0, none⟩)]) ∧ Sat W w' (sep (blk w.heap.size (.cells #[.map (some b)] 88 (0, 0))) (sep (bmap b f nf) A)) := by
  refine (callsIn_wide (n := 1)).1 ((keys_in 1 b w).mono ?_)
  rintro e w' ⟨rfl, rfl⟩
  exact ⟨rfl, h.alloc _⟩
theorem sortedKeys_spec {W w : World} {A : Assn} (Bs b : Nat) (f : Int → Option Value) (nf : Nat) (hN : nf ≤ 1000000000) (h : Sat W w (sep (blk Bs (.cells #[.map (some b)] 88 (0, 0))) (sep (bmap b f nf) A))) :
    Calls Tryz.prog 59 #[.func (.func 82) #[] #[.pointer (some ⟨Bs, 0, none⟩)]] w fun e w' => ∃ a c ks, e = .returned (.slice a ks.length c) ∧ KeysOf f ks ∧ ks.length ≤ nf ∧ Sat W w' (sep (osl 3 1 a ks.length c (ks.map iv)) (sep (bmap b f nf) A)) := by
  refine (callsIn_wide (n := 5)).1 ((sorted_in 5 nf 82 _ (by omega) hN (enters_of Tryz.func82 (by kernel_rfl) rfl) (keys1_gives (5 - 1 - 1 - 1) (by omega) Bs b f nf) h).mono ?_)
  rintro e w' ⟨a, c, xs, rfl, ⟨h1, h2⟩, h3, h4⟩
  obtain ⟨hk, hl⟩ := keysOf_sort h1 h2
  refine ⟨a, c, sortZ xs, by rw [hl], hk, by omega, ?_⟩
  rw [hl]
  exact h4
end Go.Proofs.YtfapiopnjllnnaaGreatDoor
/- Owned maps keyed by integers: how many keys there can be. Plain Lean, no program in sight. -/
namespace PA
open Go Go.RowKit
def keyZ (e : MapEntry) : Int := match e.key with | .int _ k => k | _ => 0
theorem nodup_range : ∀ (N : Nat) (l : List Int), l.Nodup → (∀ x ∈ l, 0 ≤ x ∧ x < N) → l.length ≤ N
  | 0, l, _, hr => by
    cases l with
    | nil => simp
    | cons x l => have := hr x (by simp); omega
  | N + 1, l, hn, hr => by
    by_cases hm : (N : Int) ∈ l
    · have ih := nodup_range N (l.erase (N : Int)) (hn.erase _) (fun x hx => by
        have h1 := (List.Nodup.mem_erase_iff hn).1 hx
        have h2 := hr x h1.2
        have h3 := h1.1
        omega)
      rw [List.length_erase_of_mem hm] at ih
      omega
    · have ih := nodup_range N l hn (fun x hx => by
        have h2 := hr x hx
        have h3 : x ≠ (N : Int) := fun e => hm (by rw [← e]; exact hx)
        omega)
      omega
theorem bmap_bound {W w : World} {A : Assn} {b : Nat} {f : Int → Option Value} {n : Nat} (N : Nat) (h : Sat W w (sep (bmap b f n) A)) (hf : ∀ k, (f k).isSome = true → 0 ≤ k ∧ k < N) : n ≤ N := by
  obtain ⟨es, clock, h1, h2, -, -⟩ := h.bmap_open
  have hk : ∀ e ∈ es.toList, e.key = .int .i64 (keyZ e) ∧ 0 ≤ keyZ e ∧ keyZ e < N := fun e he => by
    obtain ⟨k, hk⟩ := h1.keys e he
    have hz : keyZ e = k := by unfold keyZ; rw [hk]
    rw [hz]
    refine ⟨hk, hf k ?_⟩
    rw [h1.some_of_mem he hk]; rfl
  have := nodup_range N (es.toList.map keyZ) (by
    rw [List.Nodup, List.pairwise_map]
    refine List.Pairwise.imp_of_mem ?_ h1.nodup
    intro a b ha hb hne e
    exact hne (by rw [(hk a ha).1, (hk b hb).1, e])) (fun x hx => by
      obtain ⟨e, he, rfl⟩ := List.mem_map.1 hx
      exact (hk e he).2)
  rw [List.length_map, Array.length_toList] at this
  omega
end PA
/- Package title: keys, Owners. -/
namespace Go.Proofs.YtfapiopnjllnnaaGreatDoor
open Go.RowKit PA
/-- The owners of shares, by party. -/
structure OwnOf (S : Shs) (own : List (Int × Rt)) : Prop where
  asc : own.Pairwise fun a b => a.1 < b.1
  mem : ∀ p r, (p, r) ∈ own ↔ S p = some r ∧ 0 < r.n
def ownC (own : List (Int × Rt)) : List Value := own.flatMap fun o => [.int .i64 o.1, .int .i64 o.2.n, .int .i64 o.2.d]
def ownsP (S : Shs) (ks : List Int) : List (Int × Rt) := ks.filterMap fun p => match S p with | some r => if 0 < r.n then some (p, r) else none | none => none
theorem ownC_len (own : List (Int × Rt)) : (ownC own).length = own.length * 3 := by
  induction own with
  | nil => rfl
  | cons x xs ih => rw [ownC, List.flatMap_cons, List.length_append, ← ownC, ih, List.length_cons]; simp; omega
theorem ownsP_of {S : Shs} {ks : List Int} (h1 : ks.Pairwise (· < ·)) (h2 : ∀ k, k ∈ ks ↔ (S k).isSome = true) : OwnOf S (ownsP S ks) := by
  refine ⟨?_, fun p r => ?_⟩
  · unfold ownsP
    refine List.Pairwise.filterMap _ ?_ h1
    intro a a' hlt b hb b' hb'
    have e1 : b.1 = a := by
      cases e : S a with
      | none => simp [e] at hb
      | some r => simp only [e] at hb; split at hb <;> simp_all; rw [← hb]
    have e2 : b'.1 = a' := by
      cases e : S a' with
      | none => simp [e] at hb'
      | some r => simp only [e] at hb'; split at hb' <;> simp_all; rw [← hb']
    rw [e1, e2]; exact hlt
  · unfold ownsP
    rw [List.mem_filterMap]
    constructor
    · rintro ⟨a, ha, hm⟩
      cases e : S a with
      | none => simp [e] at hm
      | some r' =>
        simp only [e] at hm
        split at hm
        · rename_i hp
          cases hm
          exact ⟨e, hp⟩
        · cases hm
    · rintro ⟨e, hp⟩
      exact ⟨p, (h2 p).2 (by rw [e]; rfl), by simp [e, hp]⟩
/-- Owners are told by the shares. -/
theorem OwnOf.unique {S : Shs} : ∀ {a b : List (Int × Rt)}, OwnOf S a → OwnOf S b → a = b := by
  intro a b ha hb
  have key : ∀ {l m : List (Int × Rt)}, l.Pairwise (fun a b => a.1 < b.1) → m.Pairwise (fun a b => a.1 < b.1) → (∀ x, x ∈ l ↔ x ∈ m) → l = m := by
    intro l
    induction l with
    | nil => intro m _ _ h; cases m with
      | nil => rfl
      | cons x m => have := (h x).2 (by simp); simp at this
    | cons x l ih =>
      intro m h1 h2 h
      cases m with
      | nil => have := (h x).1 (by simp); simp at this
      | cons y m =>
        have a1 := List.pairwise_cons.1 h1
        have a2 := List.pairwise_cons.1 h2
        have hxy : x = y := by
          rcases List.mem_cons.1 ((h x).1 (by simp)) with e | e
          · exact e
          · rcases List.mem_cons.1 ((h y).2 (by simp)) with e' | e'
            · exact e'.symm
            · have := a1.1 y e'; have := a2.1 x e; omega
        subst hxy
        rw [ih a1.2 a2.2 fun z => ?_]
        constructor
        · intro hz
          rcases List.mem_cons.1 ((h z).1 (by simp [hz])) with e | e
          · have := a1.1 z hz; rw [e] at this; omega
          · exact e
        · intro hz
          rcases List.mem_cons.1 ((h z).2 (by simp [hz])) with e | e
          · have := a2.1 z hz; rw [e] at this; omega
          · exact e
  exact key ha.asc hb.asc fun ⟨p, r⟩ => by rw [ha.mem, hb.mem]
theorem tkeys_spec {W w : World} {A : Assn} (b : Nat) (f : Int → Option Value) (nf : Nat) (hN : nf ≤ 1000000000) (h : Sat W w (sep (bmap b f nf) A)) :
    Calls Tryz.prog 36 #[.map (some b)] w fun e w' => ∃ a c ks, e = .returned (.slice a ks.length c) ∧ KeysOf f ks ∧ ks.length ≤ nf ∧ Sat W w' (sep (osl 3 1 a ks.length c (ks.map iv)) (sep (bmap b f nf) A)) := by
  have hk := Lib.hid (keys_spec b f nf h)
  clear h
  go_enter Tryz.func36, Tryz.ntmps36
  go_wp2_with fail
  refine hk.out.mono ?_
  rintro e w2 ⟨rfl, h2⟩
  have hs := Lib.hid (sortedKeys_spec w.heap.size b f nf hN h2)
  clear h2
  go_wp2_with fail
  refine hs.out.mono ?_
  rintro e w3 ⟨a, c, ks, rfl, h3, h4, h5⟩
  have H := Lib.hid (And.intro h3 (And.intro h4 h5))
  clear h3 h4 h5
  go_wp2
  go_ret
  exact ⟨a, c, ks, rfl, H.out⟩
end Go.Proofs.YtfapiopnjllnnaaGreatDoor
