/- Owned maps keyed by integers whose entries bear stamps, and a range over such a map. Plain Lean, no program in sight. -/
import Derived.Test.YtodipneapffjdaaGreatDoorGActsSort3
import Derived.Maps.RangeWalk
import Derived.Test.YtodipneapffjdaaGreatDoorGActsSort7
import Derived.Test.YtodipneapffjdaaGreatDoorGActsSort23
import Derived.Test.YtodipneapffjdaaGreatDoorGActsSort17
namespace PA
open Go Go.RowKit
structure Born (es : List MapEntry) (clock : Nat) : Prop where
  lt : ∀ e ∈ es, e.born < clock
  nodup : (es.map (·.born)).Nodup
theorem Born.nil (c : Nat) : Born [] c := ⟨fun _ h => (by cases h), .nil⟩
theorem born_eq : ∀ {l : List MapEntry}, (l.map (·.born)).Nodup → ∀ {x y : MapEntry}, x ∈ l → y ∈ l → x.born = y.born → x = y
  | [], _, _, _, hx, _, _ => by cases hx
  | a :: l, hn, x, y, hx, hy, h => by
    rw [List.map_cons, List.nodup_cons] at hn
    rcases List.mem_cons.1 hx with rfl | hx'
    · rcases List.mem_cons.1 hy with rfl | hy'
      · rfl
      · exact absurd (List.mem_map.2 ⟨y, hy', h.symm⟩) hn.1
    · rcases List.mem_cons.1 hy with rfl | hy'
      · exact absurd (List.mem_map.2 ⟨x, hx', h⟩) hn.1
      · exact born_eq hn.2 hx' hy' h
theorem Born.push {es : List MapEntry} {c : Nat} (h : Born es c) (k v : Value) : Born (es ++ [{ key := k, val := v, born := c }]) (c + 1) := by
  refine ⟨fun e he => ?_, ?_⟩
  · rcases List.mem_append.1 he with he | he
    · have := h.lt e he; omega
    · rw [List.mem_singleton.1 he]; exact Nat.lt_succ_self c
  · rw [List.map_append, List.map_cons, List.map_nil]
    refine List.nodup_append.2 ⟨h.nodup, by simp, fun x hx y hy => ?_⟩
    obtain ⟨e, he, rfl⟩ := List.mem_map.1 hx
    rw [List.mem_singleton.1 hy]
    have h1 := h.lt e he
    show e.born ≠ c
    omega
theorem modify_born (es : List MapEntry) (j : Nat) (k v : Value) : (es.modify j fun x => { x with key := k, val := v }).map (·.born) = es.map (·.born) := by
  apply List.ext_getElem
  · simp
  · intro i h1 h2
    simp only [List.getElem_map, List.getElem_modify]
    split <;> rfl
theorem Born.modify {es : List MapEntry} {c : Nat} (h : Born es c) (j : Nat) (k v : Value) : Born (es.modify j fun x => { x with key := k, val := v }) c := by
  refine ⟨fun e he => ?_, by rw [modify_born]; exact h.nodup⟩
  have : e.born ∈ (es.modify j fun x => { x with key := k, val := v }).map (·.born) := List.mem_map.2 ⟨e, he, rfl⟩
  rw [modify_born] at this
  obtain ⟨e', he', e2⟩ := List.mem_map.1 this
  rw [← e2]; exact h.lt e' he'
theorem Born.erase {es : List MapEntry} {c : Nat} (h : Born es c) (j : Nat) : Born (es.eraseIdx j) c :=
  ⟨fun e he => h.lt e ((List.eraseIdx_sublist es j).mem he), h.nodup.sublist ((List.eraseIdx_sublist es j).map _)⟩
def bmap (b : Nat) (f : Int → Option Value) (n : Nat) : Assn := ex fun s : Array MapEntry × Nat => sep (fact (MapRep s.1.toList f ∧ s.1.size = n ∧ Born s.1.toList s.2)) (blk b (.map s.1 s.2))
section
variable {P : Program} {W w : World} {A : Assn}
theorem Sat.bmap_open {b : Nat} {f : Int → Option Value} {n : Nat} (h : Sat W w (sep (bmap b f n) A)) : ∃ es clock, MapRep es.toList f ∧ es.size = n ∧ Born es.toList clock ∧ Sat W w (sep (blk b (.map es clock)) A) := by
  rw [bmap, ex_sep, Sat.ex] at h
  obtain ⟨⟨es, clock⟩, h⟩ := h
  rw [sep_assoc] at h
  have h' := Sat.fact.1 h
  exact ⟨es, clock, h'.1.1, h'.1.2.1, h'.1.2.2, h'.2⟩
theorem Sat.bmap_mk {b : Nat} {f : Int → Option Value} {n : Nat} {es : Array MapEntry} {clock : Nat} (h : Sat W w (sep (blk b (.map es clock)) A)) (h1 : MapRep es.toList f) (h2 : es.size = n) (h3 : Born es.toList clock) : Sat W w (sep (bmap b f n) A) := by
  rw [bmap, ex_sep, Sat.ex]
  refine ⟨(es, clock), ?_⟩
  rw [sep_assoc]
  exact Sat.fact.2 ⟨⟨h1, h2, h3⟩, h⟩
theorem Sat.bmap_new (h : Sat W w A) : Sat W (w.alloc (.map #[] 0)) (sep (bmap w.heap.size (fun _ => none) 0) A) :=
  (h.alloc (.map #[] 0)).bmap_mk MapRep.nil rfl (Born.nil 0)
/-- 'm[k] = v', whether the key was there or not. -/
theorem run_update_bmap {T K E : TypeId} (hT : P.underlying T = some (.map K E)) (hK : P.underlying K = some (.int .i64)) {b : Nat} {f : Int → Option Value} {n : Nat} (h : Sat W w (sep (bmap b f n) A)) (k : Int) (v : Value) :
    ∃ w' n', (Instr.mapUpdate T (.map (some b)) (.int .i64 k) v).run P w = .ok () w' ∧ n' = (if (f k).isSome then n else n + 1) ∧ Sat W w' (sep (bmap b (fset f k (some v)) n') A) := by
  obtain ⟨es, clock, h1, h2, hb, h3⟩ := h.bmap_open
  obtain ⟨r, e1, e2, e3⟩ := run_findKey_int (P := P) (k := k) hK h1 w
  have hg := run_getObj_map (P := P) h3.blk_heap
  cases r with
  | none =>
    have hk : f k = none := by rw [← e2]; rfl
    refine ⟨_, n + 1, by simp [Instr.mapUpdate, run_underlying hT, hg, run_checkKey_int hK, e1, run_setObj_map (P := P) h3.blk_heap]; rfl, by simp [hk], (h3.setObj _).bmap_mk ?_ (by simp [h2]) ?_⟩
    · simpa using h1.push k v clock hk
    · simpa using hb.push (.int .i64 k) v
  | some r =>
    obtain ⟨j, u⟩ := r
    obtain ⟨e, h4, h5, h6⟩ := e3 j u rfl
    have hk : (f k).isSome = true := by rw [← e2]; rfl
    have hkey : ((es[j]?.map (·.key)).getD (.int .i64 k)) = .int .i64 k := by
      have : es[j]? = some e := by simpa using h4
      simp [this, h5]
    refine ⟨_, n, by simp [Instr.mapUpdate, run_underlying hT, hg, run_checkKey_int hK, e1, Instr.keyThatStays, hkey, sameBits_int, run_setObj_map (P := P) h3.blk_heap]; rfl, by simp [hk], (h3.setObj _).bmap_mk ?_ (by simp [h2]) ?_⟩
    · simpa using h1.modify k v h4 h5
    · simpa using hb.modify j (.int .i64 k) v
/-! ### a range -/
structure RngOK (es : List MapEntry) (f : Int → Option Value) (clock since c0 : Nat) (seen : Array Nat) (left : Int → Bool) : Prop where
  rep : MapRep es f
  born : Born es clock
  old : ∀ e ∈ es, e.born < since
  sc : since ≤ c0
  scl : since ≤ clock
  lf : ∀ e ∈ es, ∀ k, e.key = .int .i64 k → left k = !seen.contains e.born
  lk : ∀ k, left k = true → (f k).isSome = true
/-- A range over map b by the iterator r is under way: left k: key k is still to come. -/
def rng (b r : Nat) (f : Int → Option Value) (n : Nat) (left : Int → Bool) (cnt : Nat) : Assn := ex fun s : Array MapEntry × Nat × Nat × Array Nat × Nat =>
  sep (fact (RngOK s.1.toList f s.2.1 s.2.2.1 s.2.2.2.2 s.2.2.2.1 left ∧ s.1.size = n ∧ (leftOf s.1 s.2.2.2.1).size = cnt)) (sep (blk b (.map s.1 s.2.1)) (blk r (.mapIter (some b) s.2.2.1 s.2.2.2.1 s.2.2.2.2)))
theorem Sat.rng_open {b r : Nat} {f : Int → Option Value} {n : Nat} {left : Int → Bool} {cnt : Nat} (h : Sat W w (sep (rng b r f n left cnt) A)) :
    ∃ es clock since seen c0, RngOK es.toList f clock since c0 seen left ∧ es.size = n ∧ (leftOf es seen).size = cnt ∧ Sat W w (sep (blk b (.map es clock)) (sep (blk r (.mapIter (some b) since seen c0)) A)) := by
  rw [rng, ex_sep, Sat.ex] at h
  obtain ⟨⟨es, clock, since, seen, c0⟩, h⟩ := h
  rw [sep_assoc, sep_assoc] at h
  have h' := Sat.fact.1 h
  exact ⟨es, clock, since, seen, c0, h'.1.1, h'.1.2.1, h'.1.2.2, h'.2⟩
theorem Sat.rng_mk {b r : Nat} {f : Int → Option Value} {n : Nat} {left : Int → Bool} {cnt : Nat} {es : Array MapEntry} {clock since c0 : Nat} {seen : Array Nat}
    (h : Sat W w (sep (blk b (.map es clock)) (sep (blk r (.mapIter (some b) since seen c0)) A))) (h1 : RngOK es.toList f clock since c0 seen left) (h2 : es.size = n) (h3 : (leftOf es seen).size = cnt) : Sat W w (sep (rng b r f n left cnt) A) := by
  rw [rng, ex_sep, Sat.ex]
  refine ⟨(es, clock, since, seen, c0), ?_⟩
  rw [sep_assoc, sep_assoc]
  exact Sat.fact.2 ⟨⟨h1, h2, h3⟩, h⟩
theorem Sat.rng_left {b r : Nat} {f : Int → Option Value} {n : Nat} {left : Int → Bool} {cnt : Nat} (h : Sat W w (sep (rng b r f n left cnt) A)) : w.rangeLeft b r = cnt := by
  obtain ⟨es, clock, since, seen, c0, -, -, h3, h4⟩ := h.rng_open
  simp only [World.rangeLeft, h4.blk_heap, h4.p1.blk_heap]
  exact h3
theorem Sat.rng_end {b r : Nat} {f : Int → Option Value} {n : Nat} {left : Int → Bool} {cnt : Nat} (h : Sat W w (sep (rng b r f n left cnt) A)) : Sat W w (sep (bmap b f n) A) := by
  obtain ⟨es, clock, since, seen, c0, h1, h2, -, h4⟩ := h.rng_open
  exact h4.p1.drop.bmap_mk h1.rep h2 h1.born
theorem MapRep.some_of_mem {es : List MapEntry} {f : Int → Option Value} (h : MapRep es f) {e : MapEntry} (he : e ∈ es) {k : Int} (hk : e.key = .int .i64 k) : f k = some e.val := by
  rw [← h.get k]
  cases hf : es.find? (keyIs k) with
  | none => rw [List.find?_eq_none] at hf; exact absurd (by simp [keyIs, hk]) (hf e he)
  | some x =>
    have hx := List.mem_of_find?_eq_some hf
    obtain ⟨n, hn⟩ := h.keys x hx
    have hp := List.find?_some hf
    simp [keyIs, hn] at hp
    subst hp
    have := entry_eq_of_key h.nodup hx he (hn.trans hk.symm)
    rw [this]; rfl
theorem MapRep.mem_of_some {es : List MapEntry} {f : Int → Option Value} (h : MapRep es f) {k : Int} (hk : (f k).isSome = true) : ∃ e ∈ es, e.key = .int .i64 k := by
  rw [← h.get k] at hk
  cases hf : es.find? (keyIs k) with
  | none => rw [hf] at hk; cases hk
  | some x =>
    have hx := List.mem_of_find?_eq_some hf
    obtain ⟨n, hn⟩ := h.keys x hx
    have hp := List.find?_some hf
    simp [keyIs, hn] at hp
    subst hp
    exact ⟨x, hx, hn⟩
/-- 'range m'. -/
theorem run_range_bmap {T K E : TypeId} (hT : P.underlying T = some (.map K E)) {b : Nat} {f : Int → Option Value} {n : Nat} (h : Sat W w (sep (bmap b f n) A)) :
    ∃ w', (Instr.range T (.map (some b))).run P w = .ok (.pointer (some ⟨w.heap.size, 0, none⟩)) w' ∧ Sat W w' (sep (rng b w.heap.size f n (fun k => (f k).isSome) n) A) := by
  obtain ⟨es, clock, h1, h2, hb, h3⟩ := h.bmap_open
  have hg := run_getObj_map (P := P) h3.blk_heap
  refine ⟨w.alloc (.mapIter (some b) clock #[] clock), by simp [Instr.range, run_underlying hT, hg], ?_⟩
  refine ((h3.alloc (.mapIter (some b) clock #[] clock)).p1).rng_mk ⟨h1, hb, hb.lt, Nat.le_refl _, Nat.le_refl _, fun e he k hk => ?_, fun k hk => hk⟩ h2 ?_
  · rw [h1.some_of_mem he hk]; simp
  · rw [← h2]; simp [leftOf]
theorem leftOf_push (es : Array MapEntry) (seen : Array Nat) (e : MapEntry) (he : e ∈ (leftOf es seen).toList) : (leftOf es (seen.push e.born)).size < (leftOf es seen).size := by
  have hsub : (leftOf es (seen.push e.born)).toList = (leftOf es seen).toList.filter fun x => x.born != e.born := by
    unfold leftOf
    simp only [Array.toList_filter, List.filter_filter]
    congr 1
    funext x
    by_cases h : x.born = e.born
    · simp [h]
    · simp [h, bne]
  have hlt : (leftOf es (seen.push e.born)).toList.length < (leftOf es seen).toList.length := by
    rw [hsub]
    exact List.length_filter_lt_length_iff_exists.2 ⟨e, he, by simp⟩
  simpa using hlt
/-- The step: nothing is left, or some key that was left comes out with its element. -/
theorem run_next_rng {b r : Nat} {f : Int → Option Value} {n : Nat} {left : Int → Bool} {cnt : Nat} (ty : TypeId) (h : Sat W w (sep (rng b r f n left cnt) A)) :
    ((∀ k, left k = false) ∧ (Instr.next (.pointer (some ⟨r, 0, none⟩)) false ty).run P w = .ok (.tuple #[.bool false]) w) ∨
    ∃ k v w' cnt', left k = true ∧ f k = some v ∧ cnt' < cnt ∧ (Instr.next (.pointer (some ⟨r, 0, none⟩)) false ty).run P w = .ok (.tuple #[.bool true, .int .i64 k, v]) w' ∧
      (Instr.entry (.pointer (some ⟨r, 0, none⟩))).run P w' = .ok (.tuple #[.int .i64 k, v]) w' ∧ Sat W w' (sep (rng b r f n (fun z => left z && z != k) cnt') A) := by
  obtain ⟨es, clock, since, seen, c0, h1, h2, h3, h4⟩ := h.rng_open
  rcases run_next_at (P := P) w ty r b since c0 seen es clock h4.p1.blk_heap h4.blk_heap h1.old h1.sc with ⟨h0, hrun⟩ | ⟨e, he, w1, hw1, hrun⟩
  · refine .inl ⟨fun k => ?_, hrun⟩
    cases hk : left k with
    | false => rfl
    | true =>
      obtain ⟨e, he, hek⟩ := h1.rep.mem_of_some (h1.lk k hk)
      have := h1.lf e he k hek
      rw [hk] at this
      have hm : e ∈ (leftOf es seen).toList := by unfold leftOf; simp; exact ⟨by simpa using he, by simpa using this.symm⟩
      have h00 : (leftOf es seen).toList.length = 0 := by simpa using h0
      rw [List.eq_nil_of_length_eq_zero h00] at hm
      cases hm
  · have hmem : e ∈ es.toList ∧ seen.contains e.born = false := by
      unfold leftOf at he; simp at he; exact ⟨by simpa using he.1, by simpa using he.2⟩
    obtain ⟨k, hk⟩ := h1.rep.keys e hmem.1
    have hlk := h1.lf e hmem.1 k hk
    rw [hmem.2] at hlk
    have hw1S : Sat W w1 (sep (blk r (.mapIter (some b) since seen c0)) (sep (blk b (.map es clock)) A)) := by
      rcases hw1 with rfl | rfl
      · exact h4.p1
      · exact h4.p1.drew
    have hset : Sat W (Go.ChangeMaps.setBlock w1 r (.mapIter (some b) since (seen.push e.born) clock)) (sep (blk r (.mapIter (some b) since (seen.push e.born) clock)) (sep (blk b (.map es clock)) A)) := hw1S.setObj _
    refine .inr ⟨k, e.val, _, _, by simpa using hlk, h1.rep.some_of_mem hmem.1 hk, ?_, by rw [hk] at hrun; exact hrun, ?_, hset.p1.rng_mk ⟨h1.rep, h1.born, h1.old, h1.scl, h1.scl, ?_, ?_⟩ h2 rfl⟩
    · rw [← h3]; exact leftOf_push es seen e he
    · have := run_entry_at (P := P) _ r b since seen es clock e hset.blk_heap hset.p1.blk_heap hmem.1 h1.born.nodup
      rw [hk] at this; exact this
    · intro e2 he2 k2 hk2
      rw [h1.lf e2 he2 k2 hk2, Array.contains_push]
      by_cases hkk : k2 = k
      · subst hkk
        have : e2 = e := entry_eq_of_key h1.rep.nodup he2 hmem.1 (hk2.trans hk.symm)
        subst this
        simp
      · have hb : ¬ e2.born = e.born := fun hbe => hkk (by
          have : e2 = e := born_eq h1.born.nodup he2 hmem.1 hbe
          subst this
          rw [hk2] at hk; cases hk; rfl)
        have e1 : (k2 != k) = true := by simp [hkk]
        have e2 : (e2.born == e.born) = false := by simp [hb]
        rw [e1, e2]; simp
    · intro z hz
      simp at hz
      exact h1.lk z hz.1
end
end PA
/- Owned maps keyed by integers: 'm[k], .. = v, ..': the entry, then its store. Plain Lean, no program in sight. -/
namespace PA
open Go Go.RowKit
section
variable {P : Program} {W w : World} {A : Assn}
end
end PA
/- Package title: share, move. -/
namespace Go.Proofs.YtodipneapffjdaaGreatDoor
open Go.RowKit PA
section
variable {W w : World} {A : Assn} {p : Nat} {app : Int} {S : Shs}
end
end Go.Proofs.YtodipneapffjdaaGreatDoor
/- Package title: move. -/
namespace Go.Proofs.YtodipneapffjdaaGreatDoor
open Go.RowKit PA
/-- A boxed act that stands. -/
theorem act_cell {J : Mem} {B : Nat} {x : Ac} (hJ : J B = some (.cells x.cells.toArray 37 (0, 0))) {w' : World} (he : Ext J w') (i : Nat) : w'.cell? ⟨B, i, none⟩ = x.cells[i]? := by
  rw [cell_of_row w' B i _ _ _ (he _ _ hJ)]
  simp
def ptrIs (g : Nat) (v : Value) : Prop := v = .pointer (some ⟨g, 0, none⟩)
end Go.Proofs.YtodipneapffjdaaGreatDoor
/- Package acts: Compare of acts with different days or ticks; cmp.Compare, cmp.Or. -/
namespace Go.Proofs.YtodipneapffjdaaGreatDoor
open Go.RowKit PA
def cmpI (a b : Int) : Int := if a < b then -1 else if b < a then 1 else 0
theorem cmpInt_spec (a b : Int) (w : World) : Calls Tryz.prog 20 #[.int .i64 a, .int .i64 b] w fun e w' => e = .returned (.int .i64 (cmpI a b)) ∧ w = w' := by
  obtain ⟨r, hr⟩ : ∃ r, r = cmpI a b := ⟨_, rfl⟩
  rw [← hr]
  unfold cmpI at hr
  have HR := Lib.hid hr
  clear hr
  by_cases c1 : a < b
  · go_enter Tryz.func20, Tryz.ntmps20
    go_wp2
    go_ret
    exact ⟨by rw [HR.out, if_pos (by omega)]; rfl, rfl⟩
  · by_cases c2 : b < a
    · go_enter Tryz.func20, Tryz.ntmps20
      go_wp2
      go_ret
      exact ⟨by rw [HR.out, if_neg (by omega), if_pos (by omega)]; rfl, rfl⟩
    · go_enter Tryz.func20, Tryz.ntmps20
      go_wp2
      go_ret
      exact ⟨by rw [HR.out, if_neg (by omega), if_neg (by omega)]; rfl, rfl⟩
theorem cmpOr_spec {W w : World} {A : Assn} (a b : Int) (C : Nat) (h : Sat W w (sep (blk C (.cells #[.int .i64 a, .int .i64 b] 3 (0, 0))) A)) :
    Calls Tryz.prog 19 #[.slice (some ⟨C, 0, none⟩) 2 2] w fun e w' => e = .returned (.int .i64 (if a ≠ 0 then a else b)) ∧ Sat W w' A := by
  obtain ⟨r, hr⟩ : ∃ r, r = if a ≠ 0 then a else b := ⟨_, rfl⟩
  rw [← hr]
  have HR := Lib.hid hr
  clear hr
  obtain ⟨c0, c1, -, -⟩ := rt2 h
  have h' := h.forget
  clear h
  go_enter Tryz.func19, Tryz.ntmps19
  go_wp2
  go_loopw [8] (fun kv wr => ∃ k : Nat, kv = .int .i64 k ∧ k ≤ 2 ∧ (1 ≤ k → a = 0) ∧ (2 ≤ k → b = 0) ∧ wr = w) (fun kv _ => 2 - (intOf kv).toNat)
  case atStart => exact ⟨0, rfl, by omega, by omega, by omega, rfl⟩
  case round =>
    obtain ⟨k, rfl, hk, q1, q2, rfl⟩ := hrel
    have Q1 := Lib.hid q1
    have Q2 := Lib.hid q2
    clear q1 q2
    obtain rfl | rfl | rfl : k = 0 ∨ k = 1 ∨ k = 2 := by omega
    · by_cases hz : a = 0
      · subst hz
        go_wp2
        go_roundw
        case rel => exact ⟨1, rfl, by omega, fun _ => (by first | rfl | trivial), by omega, by first | rfl | trivial⟩
        case measure => simp [intOf]
      · have hz2 : (a != 0) = true := by simp [hz]
        go_wp2
        go_ret
        exact ⟨by rw [HR.out, if_pos hz]; rfl, h'⟩
    · by_cases hz : b = 0
      · subst hz
        go_wp2
        go_roundw
        case rel => exact ⟨2, rfl, by omega, fun _ => Q1.out (by omega), fun _ => (by first | rfl | trivial), by first | rfl | trivial⟩
        case measure => simp [intOf]
      · have hz2 : (b != 0) = true := by simp [hz]
        go_wp2
        go_ret
        exact ⟨by rw [HR.out, if_neg (by rw [Q1.out (by omega)]; simp)]; rfl, h'⟩
    · go_wp2
      go_ret
      exact ⟨by rw [HR.out, if_neg (by rw [Q1.out (by omega)]; simp), Q2.out (by omega)]; rfl, h'⟩
theorem cmpK_or (x y : Ac) : (if cmpI x.d y.d ≠ 0 then cmpI x.d y.d else cmpI x.n y.n) = cmpK x y := by
  unfold cmpI cmpK
  repeat' split
  all_goals first | rfl | omega | contradiction | skip
theorem cmpK_nz {x y : Ac} (h : KeyNe x y) : cmpK x y ≠ 0 := by
  unfold cmpK
  unfold KeyNe at h
  repeat' split
  all_goals omega
set_option maxRecDepth 100000 in
set_option maxHeartbeats 4000000 in
theorem compareK_spec {W w : World} {A : Assn} (x y : Ac) (hne : KeyNe x y) (h : Sat W w A) :
    Calls Tryz.prog 9 #[.agg x.cells.toArray, .agg y.cells.toArray] w fun e w' => e = .returned (.int .i64 (cmpK x y)) ∧ Sat W w' A := by
  obtain ⟨r, hr⟩ : ∃ r, r = cmpK x y := ⟨_, rfl⟩
  have hnz : r ≠ 0 := by rw [hr]; exact cmpK_nz hne
  rw [← hr]
  obtain ⟨I, hk⟩ := h.know
  obtain ⟨J, hle, hJ, h1⟩ := (hk.alloc (.cells x.cells.toArray 37)).settle.learn
  obtain ⟨J2, hle2, hJ2, h2⟩ := (h1.alloc (.cells y.cells.toArray 37)).settle.learn
  rw [World.size_alloc] at hJ2
  obtain ⟨B, hB⟩ : ∃ B, B = w.heap.size := ⟨_, rfl⟩
  obtain ⟨w1, hw1⟩ : ∃ w1, w1 = (w.alloc (.cells x.cells.toArray 37)).alloc (.cells y.cells.toArray 37) := ⟨_, rfl⟩
  rw [← hB] at hJ hJ2
  rw [← hw1] at h2
  have HX : Hid (∀ w', Ext J2 w' → (w'.cell? ⟨B, 1, none⟩ = some (.int .i64 x.d) ∧ w'.cell? ⟨B + 1, 1, none⟩ = some (.int .i64 y.d)) ∧ w'.cell? ⟨B, 2, none⟩ = some (.int .i64 x.n) ∧ w'.cell? ⟨B + 1, 2, none⟩ = some (.int .i64 y.n)) :=
    Lib.hid fun w' he => ⟨⟨act_cell (hle2 _ _ hJ) he 1, act_cell hJ2 he 1⟩, act_cell (hle2 _ _ hJ) he 2, act_cell hJ2 he 2⟩
  have HR : Hid ((if cmpI x.d y.d ≠ 0 then cmpI x.d y.d else cmpI x.n y.n) = r) := Lib.hid (by rw [cmpK_or, hr])
  obtain ⟨a1, ha1⟩ : ∃ a1, a1 = cmpI x.d y.d := ⟨_, rfl⟩
  obtain ⟨a2, ha2⟩ : ∃ a2, a2 = cmpI x.n y.n := ⟨_, rfl⟩
  have hc1 := cmpInt_spec x.d y.d
  have hc2 := cmpInt_spec x.n y.n
  rw [← ha1] at hc1
  rw [← ha2] at hc2
  rw [← ha1, ← ha2] at HR
  have HC1 := Lib.hid hc1
  have HC2 := Lib.hid hc2
  have HNZ := Lib.hid hnz
  have HB := Lib.hid hB
  have HW1 := Lib.hid hw1
  have hd := h2.drew
  obtain ⟨wd, hwd⟩ : ∃ wd, wd = w1.drew := ⟨_, rfl⟩
  rw [← hwd] at hd
  have hcl := HX.out wd hd.ext
  obtain ⟨⟨k0, k1⟩, hS0⟩ := hcl
  have HWD := Lib.hid hwd
  have HD := Lib.hid hd
  clear hB hw1 hle hle2 hJ hJ2 hk h h1 h2 hr hne hnz ha1 ha2 hc1 hc2 hwd hd
  go_enter Tryz.func9, Tryz.ntmps9
  go_upto_region 1 with (fail)
  simp only [← HB.out, ← HW1.out]
  refine wp_region_canon rfl (fun w' => w'.cell? ⟨B, 2, none⟩ = some (.int .i64 x.n) ∧ w'.cell? ⟨B + 1, 2, none⟩ = some (.int .i64 y.n)) [(0, .p), (1, .t), (2, .p), (3, .t), (5, .p), (6, .s), (7, .p), (8, .s), (4, .e true), (9, .e false), (10, .e false), (11, .e false), (12, .p)] (by kernel_rfl) ?_
  rw [← HWD.out]
  (repeat ((first | (refine C_p (v := ?_) rfl rfl (fun w' => ?_) ?_; rotate_left; (go_simp; with_reducible rfl)) | (refine C_s (v := ?_) rfl rfl hS0 (fun w' hS => ?_) ?_; rotate_left; ((try dsimp only at hS); go_simp; with_reducible rfl)) | (refine C_t (v := ?_) rfl rfl ?_ ?_; rotate_left; (go_simp; with_reducible rfl)) | (refine C_po rfl rfl ?_) | (refine C_so rfl rfl hS0 ?_) | (refine C_to rfl rfl ?_)); simp only [Act.put, List.setIfInBounds_toArray, List.set_cons_zero, List.set_cons_succ]))
  (refine C_e rfl rfl (fun K hK => ?_); go_simp)
  refine (HC1.out wd).mono ?_
  rintro e w' ⟨rfl, rfl⟩
  (refine hK _ _ (fun _ => hS0) ?_; clear hK K; (try simp only [Act.put, List.setIfInBounds_toArray, List.set_cons_zero, List.set_cons_succ]))
  clear k0 k1 hS0
  (refine C_e rfl rfl (fun K hK => ?_); go_simp)
  refine (HC2.out wd).mono ?_
  rintro e w' ⟨rfl, rfl⟩
  (refine hK _ _ (fun h => by cases h) ?_; clear hK K; (try simp only [Act.put, List.setIfInBounds_toArray, List.set_cons_zero, List.set_cons_succ]))
  (refine C_e rfl rfl (fun K hK => ?_); go_simp)
  (refine hK _ _ (fun h => by cases h) ?_; clear hK K; (try simp only [Act.put, List.setIfInBounds_toArray, List.set_cons_zero, List.set_cons_succ]))
  (refine C_e rfl rfl (fun K hK => ?_); go_simp)
  refine (cmpOr_spec a1 a2 _ (HD.out.alloc (.cells #[.int .i64 a1, .int .i64 a2] 3))).mono ?_
  rintro e w3 ⟨rfl, h3⟩
  rw [HR.out]
  (refine hK _ _ (fun h => by cases h) ?_; clear hK K; (try simp only [Act.put, List.setIfInBounds_toArray, List.set_cons_zero, List.set_cons_succ]))
  (repeat ((first | (refine C_p (v := ?_) rfl rfl (fun w' => ?_) ?_; rotate_left; (go_simp; with_reducible rfl)) | (refine C_s (v := ?_) rfl rfl hS0 (fun w' hS => ?_) ?_; rotate_left; ((try dsimp only at hS); go_simp; with_reducible rfl)) | (refine C_t (v := ?_) rfl rfl ?_ ?_; rotate_left; (go_simp; with_reducible rfl)) | (refine C_po rfl rfl ?_) | (refine C_so rfl rfl hS0 ?_) | (refine C_to rfl rfl ?_)); simp only [Act.put, List.setIfInBounds_toArray, List.set_cons_zero, List.set_cons_succ]))
  refine C_nil ?_
  have hz : (r != 0) = true := by simp [HNZ.out]
  go_wp2
  go_ret
  exact ⟨rfl, h3.drop⟩
end Go.Proofs.YtodipneapffjdaaGreatDoor
