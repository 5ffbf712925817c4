/- Owned maps keyed by integers whose entries bear stamps, and a range over such a map. Plain Lean, no program in sight. -/
import Derived.Test.YtfapiopnjllnnaaGreatDoorVal
import Derived.Maps.RangeWalk
namespace PA
open Go Go.RowKit
structure Born (es : List MapEntry) (clock : Nat) : Prop where
  lt : ∀ e ∈ es, e.born < clock
  nodup : (es.map (·.born)).Nodup
theorem Born.nil (c : Nat) : Born [] c := ⟨fun _ h => (by cases h), .nil⟩
theorem born_eq : ∀ {l : List MapEntry}, (l.map (·.born)).Nodup → ∀ {x y : MapEntry}, x ∈ l → y ∈ l → x.born = y.born → x = y
  | [], _, _, _, hx, _, _ => by cases hx
  | a :: l, hn, x, y, hx, hy, h => by
    rw [List.map_cons, List.nodup_cons] at hn
    rcases List.mem_cons.1 hx with rfl | hx'
    · rcases List.mem_cons.1 hy with rfl | hy'
      · rfl
      · exact absurd (List.mem_map.2 ⟨y, hy', h.symm⟩) hn.1
    · rcases List.mem_cons.1 hy with rfl | hy'
      · exact absurd (List.mem_map.2 ⟨x, hx', h⟩) hn.1
      · exact born_eq hn.2 hx' hy' h
theorem Born.push {es : List MapEntry} {c : Nat} (h : Born es c) (k v : Value) : Born (es ++ [{ key := k, val := v, born := c }]) (c + 1) := by
  refine ⟨fun e he => ?_, ?_⟩
  · rcases List.mem_append.1 he with he | he
    · have := h.lt e he; omega
    · rw [List.mem_singleton.1 he]; exact Nat.lt_succ_self c
  · rw [List.map_append, List.map_cons, List.map_nil]
    refine List.nodup_append.2 ⟨h.nodup, by simp, fun x hx y hy => ?_⟩
    obtain ⟨e, he, rfl⟩ := List.mem_map.1 hx
    rw [List.mem_singleton.1 hy]
    have h1 := h.lt e he
    show e.born ≠ c
    omega
theorem modify_born (es : List MapEntry) (j : Nat) (k v : Value) : (es.modify j fun x => { x with key := k, val := v }).map (·.born) = es.map (·.born) := by
  apply List.ext_getElem
  · simp
  · intro i h1 h2
    simp only [List.getElem_map, List.getElem_modify]
    split <;> rfl
theorem Born.modify {es : List MapEntry} {c : Nat} (h : Born es c) (j : Nat) (k v : Value) : Born (es.modify j fun x => { x with key := k, val := v }) c := by
  refine ⟨fun e he => ?_, by rw [modify_born]; exact h.nodup⟩
  have : e.born ∈ (es.modify j fun x => { x with key := k, val := v }).map (·.born) := List.mem_map.2 ⟨e, he, rfl⟩
  rw [modify_born] at this
  obtain ⟨e', he', e2⟩ := List.mem_map.1 this
  rw [← e2]; exact h.lt e' he'
theorem Born.erase {es : List MapEntry} {c : Nat} (h : Born es c) (j : Nat) : Born (es.eraseIdx j) c :=
  ⟨fun e he => h.lt e ((List.eraseIdx_sublist es j).mem he), h.nodup.sublist ((List.eraseIdx_sublist es j).map _)⟩
def bmap (b : Nat) (f : Int → Option Value) (n : Nat) : Assn := ex fun s : Array MapEntry × Nat => sep (fact (MapRep s.1.toList f ∧ s.1.size = n ∧ Born s.1.toList s.2)) (blk b (.map s.1 s.2))
section
variable {P : Program} {W w : World} {A : Assn}
theorem Sat.bmap_open {b : Nat} {f : Int → Option Value} {n : Nat} (h : Sat W w (sep (bmap b f n) A)) : ∃ es clock, MapRep es.toList f ∧ es.size = n ∧ Born es.toList clock ∧ Sat W w (sep (blk b (.map es clock)) A) := by
  rw [bmap, ex_sep, Sat.ex] at h
  obtain ⟨⟨es, clock⟩, h⟩ := h
  rw [sep_assoc] at h
  have h' := Sat.fact.1 h
  exact ⟨es, clock, h'.1.1, h'.1.2.1, h'.1.2.2, h'.2⟩
theorem Sat.bmap_mk {b : Nat} {f : Int → Option Value} {n : Nat} {es : Array MapEntry} {clock : Nat} (h : Sat W w (sep (blk b (.map es clock)) A)) (h1 : MapRep es.toList f) (h2 : es.size = n) (h3 : Born es.toList clock) : Sat W w (sep (bmap b f n) A) := by
  rw [bmap, ex_sep, Sat.ex]
  refine ⟨(es, clock), ?_⟩
  rw [sep_assoc]
  exact Sat.fact.2 ⟨⟨h1, h2, h3⟩, h⟩
theorem Sat.bmap_imap {b : Nat} {f : Int → Option Value} {n : Nat} (h : Sat W w (sep (bmap b f n) A)) : Sat W w (sep (imap b f n) A) := by
  obtain ⟨es, clock, h1, h2, -, h4⟩ := h.bmap_open
  exact h4.imap_mk h1 h2
theorem Sat.bmap_new (h : Sat W w A) : Sat W (w.alloc (.map #[] 0)) (sep (bmap w.heap.size (fun _ => none) 0) A) :=
  (h.alloc (.map #[] 0)).bmap_mk MapRep.nil rfl (Born.nil 0)
/-- 'm[k]', 'v, ok := m[k]'. -/
theorem run_lookup_bmap {T K E : TypeId} {z : Value} (hT : P.underlying T = some (.map K E)) (hK : P.underlying K = some (.int .i64)) (hz : ∀ w, (zeroValue E).run P w = .ok z w)
    {b : Nat} {f : Int → Option Value} {n : Nat} (h : Sat W w (sep (bmap b f n) A)) (k : Int) (ok : Bool) :
    (Instr.lookup T (.map (some b)) (.int .i64 k) ok).run P w = .ok (if ok then .tuple #[(f k).getD z, .bool (f k).isSome] else (f k).getD z) w := run_lookup_imap hT hK hz h.bmap_imap k ok
/-- 'm[k] = v', whether the key was there or not. -/
theorem run_update_bmap {T K E : TypeId} (hT : P.underlying T = some (.map K E)) (hK : P.underlying K = some (.int .i64)) {b : Nat} {f : Int → Option Value} {n : Nat} (h : Sat W w (sep (bmap b f n) A)) (k : Int) (v : Value) :
    ∃ w' n', (Instr.mapUpdate T (.map (some b)) (.int .i64 k) v).run P w = .ok () w' ∧ n' = (if (f k).isSome then n else n + 1) ∧ Sat W w' (sep (bmap b (fset f k (some v)) n') A) := by
  obtain ⟨es, clock, h1, h2, hb, h3⟩ := h.bmap_open
  obtain ⟨r, e1, e2, e3⟩ := run_findKey_int (P := P) (k := k) hK h1 w
  have hg := run_getObj_map (P := P) h3.blk_heap
  cases r with
  | none =>
    have hk : f k = none := by rw [← e2]; rfl
    refine ⟨_, n + 1, by simp [Instr.mapUpdate, run_underlying hT, hg, run_checkKey_int hK, e1, run_setObj_map (P := P) h3.blk_heap]; rfl, by simp [hk], (h3.setObj _).bmap_mk ?_ (by simp [h2]) ?_⟩
    · simpa using h1.push k v clock hk
    · simpa using hb.push (.int .i64 k) v
  | some r =>
    obtain ⟨j, u⟩ := r
    obtain ⟨e, h4, h5, h6⟩ := e3 j u rfl
    have hk : (f k).isSome = true := by rw [← e2]; rfl
    have hkey : ((es[j]?.map (·.key)).getD (.int .i64 k)) = .int .i64 k := by
      have : es[j]? = some e := by simpa using h4
      simp [this, h5]
    refine ⟨_, n, by simp [Instr.mapUpdate, run_underlying hT, hg, run_checkKey_int hK, e1, Instr.keyThatStays, hkey, sameBits_int, run_setObj_map (P := P) h3.blk_heap]; rfl, by simp [hk], (h3.setObj _).bmap_mk ?_ (by simp [h2]) ?_⟩
    · simpa using h1.modify k v h4 h5
    · simpa using hb.modify j (.int .i64 k) v
/-- 'delete(m, k)', the key there before. -/
theorem run_delete_bmap {T K E ty : TypeId} {u : TypeId} (hT : P.underlying T = some (.map K E)) (hK : P.underlying K = some (.int .i64)) {b : Nat} {f : Int → Option Value} {n : Nat} (h : Sat W w (sep (bmap b f n) A)) (k : Int) (hk : (f k).isSome = true) :
    ∃ w', (Builtin.delete_ #[T, u] ty #[.map (some b), .int .i64 k]).run P w = .ok (.tuple #[]) w' ∧ Sat W w' (sep (bmap b (fset f k none) (n - 1)) A) := by
  obtain ⟨es, clock, h1, h2, hb, h3⟩ := h.bmap_open
  obtain ⟨r, e1, e2, e3⟩ := run_findKey_int (P := P) (k := k) hK h1 w
  have hg := run_getObj_map (P := P) h3.blk_heap
  cases r with
  | none => rw [← e2] at hk; cases hk
  | some r =>
    obtain ⟨j, u⟩ := r
    obtain ⟨e, h4, h5, h6⟩ := e3 j u rfl
    have hj : j < es.size := by have := (List.getElem?_eq_some_iff.1 h4).1; simpa using this
    refine ⟨_, by simp [Builtin.delete_, run_underlying hT, hg, run_checkKey_int hK, e1, run_setObj_map (P := P) h3.blk_heap]; rfl, (h3.setObj _).bmap_mk ?_ (by subst h2; simp [Array.eraseIdxIfInBounds, hj]) ?_⟩
    · simpa [Array.eraseIdxIfInBounds, hj] using h1.erase k h4 h5
    · simpa [Array.eraseIdxIfInBounds, hj] using hb.erase j
/-! ### a range -/
structure RngOK (es : List MapEntry) (f : Int → Option Value) (clock since c0 : Nat) (seen : Array Nat) (left : Int → Bool) : Prop where
  rep : MapRep es f
  born : Born es clock
  old : ∀ e ∈ es, e.born < since
  sc : since ≤ c0
  scl : since ≤ clock
  lf : ∀ e ∈ es, ∀ k, e.key = .int .i64 k → left k = !seen.contains e.born
  lk : ∀ k, left k = true → (f k).isSome = true
/-- A range over map b by the iterator r is under way: left k: key k is still to come. -/
def rng (b r : Nat) (f : Int → Option Value) (n : Nat) (left : Int → Bool) (cnt : Nat) : Assn := ex fun s : Array MapEntry × Nat × Nat × Array Nat × Nat =>
  sep (fact (RngOK s.1.toList f s.2.1 s.2.2.1 s.2.2.2.2 s.2.2.2.1 left ∧ s.1.size = n ∧ (leftOf s.1 s.2.2.2.1).size = cnt)) (sep (blk b (.map s.1 s.2.1)) (blk r (.mapIter (some b) s.2.2.1 s.2.2.2.1 s.2.2.2.2)))
theorem Sat.rng_open {b r : Nat} {f : Int → Option Value} {n : Nat} {left : Int → Bool} {cnt : Nat} (h : Sat W w (sep (rng b r f n left cnt) A)) :
    ∃ es clock since seen c0, RngOK es.toList f clock since c0 seen left ∧ es.size = n ∧ (leftOf es seen).size = cnt ∧ Sat W w (sep (blk b (.map es clock)) (sep (blk r (.mapIter (some b) since seen c0)) A)) := by
  rw [rng, ex_sep, Sat.ex] at h
  obtain ⟨⟨es, clock, since, seen, c0⟩, h⟩ := h
  rw [sep_assoc, sep_assoc] at h
  have h' := Sat.fact.1 h
  exact ⟨es, clock, since, seen, c0, h'.1.1, h'.1.2.1, h'.1.2.2, h'.2⟩
theorem Sat.rng_mk {b r : Nat} {f : Int → Option Value} {n : Nat} {left : Int → Bool} {cnt : Nat} {es : Array MapEntry} {clock since c0 : Nat} {seen : Array Nat}
    (h : Sat W w (sep (blk b (.map es clock)) (sep (blk r (.mapIter (some b) since seen c0)) A))) (h1 : RngOK es.toList f clock since c0 seen left) (h2 : es.size = n) (h3 : (leftOf es seen).size = cnt) : Sat W w (sep (rng b r f n left cnt) A) := by
  rw [rng, ex_sep, Sat.ex]
  refine ⟨(es, clock, since, seen, c0), ?_⟩
  rw [sep_assoc, sep_assoc]
  exact Sat.fact.2 ⟨⟨h1, h2, h3⟩, h⟩
theorem Sat.rng_left {b r : Nat} {f : Int → Option Value} {n : Nat} {left : Int → Bool} {cnt : Nat} (h : Sat W w (sep (rng b r f n left cnt) A)) : w.rangeLeft b r = cnt := by
  obtain ⟨es, clock, since, seen, c0, -, -, h3, h4⟩ := h.rng_open
  simp only [World.rangeLeft, h4.blk_heap, h4.p1.blk_heap]
  exact h3
theorem Sat.rng_end {b r : Nat} {f : Int → Option Value} {n : Nat} {left : Int → Bool} {cnt : Nat} (h : Sat W w (sep (rng b r f n left cnt) A)) : Sat W w (sep (bmap b f n) A) := by
  obtain ⟨es, clock, since, seen, c0, h1, h2, -, h4⟩ := h.rng_open
  exact h4.p1.drop.bmap_mk h1.rep h2 h1.born
theorem MapRep.some_of_mem {es : List MapEntry} {f : Int → Option Value} (h : MapRep es f) {e : MapEntry} (he : e ∈ es) {k : Int} (hk : e.key = .int .i64 k) : f k = some e.val := by
  rw [← h.get k]
  cases hf : es.find? (keyIs k) with
  | none => rw [List.find?_eq_none] at hf; exact absurd (by simp [keyIs, hk]) (hf e he)
  | some x =>
    have hx := List.mem_of_find?_eq_some hf
    obtain ⟨n, hn⟩ := h.keys x hx
    have hp := List.find?_some hf
    simp [keyIs, hn] at hp
    subst hp
    have := entry_eq_of_key h.nodup hx he (hn.trans hk.symm)
    rw [this]; rfl
theorem MapRep.mem_of_some {es : List MapEntry} {f : Int → Option Value} (h : MapRep es f) {k : Int} (hk : (f k).isSome = true) : ∃ e ∈ es, e.key = .int .i64 k := by
  rw [← h.get k] at hk
  cases hf : es.find? (keyIs k) with
  | none => rw [hf] at hk; cases hk
  | some x =>
    have hx := List.mem_of_find?_eq_some hf
    obtain ⟨n, hn⟩ := h.keys x hx
    have hp := List.find?_some hf
    simp [keyIs, hn] at hp
    subst hp
    exact ⟨x, hx, hn⟩
/-- 'range m'. -/
theorem run_range_bmap {T K E : TypeId} (hT : P.underlying T = some (.map K E)) {b : Nat} {f : Int → Option Value} {n : Nat} (h : Sat W w (sep (bmap b f n) A)) :
    ∃ w', (Instr.range T (.map (some b))).run P w = .ok (.pointer (some ⟨w.heap.size, 0, none⟩)) w' ∧ Sat W w' (sep (rng b w.heap.size f n (fun k => (f k).isSome) n) A) := by
  obtain ⟨es, clock, h1, h2, hb, h3⟩ := h.bmap_open
  have hg := run_getObj_map (P := P) h3.blk_heap
  refine ⟨w.alloc (.mapIter (some b) clock #[] clock), by simp [Instr.range, run_underlying hT, hg], ?_⟩
  refine ((h3.alloc (.mapIter (some b) clock #[] clock)).p1).rng_mk ⟨h1, hb, hb.lt, Nat.le_refl _, Nat.le_refl _, fun e he k hk => ?_, fun k hk => hk⟩ h2 ?_
  · rw [h1.some_of_mem he hk]; simp
  · rw [← h2]; simp [leftOf]
theorem leftOf_size (es : Array MapEntry) (seen : Array Nat) : (leftOf es seen).size = (es.toList.filter fun e => !seen.contains e.born).length := by
  unfold leftOf; rw [← Array.length_toList, Array.toList_filter]
theorem leftOf_push (es : Array MapEntry) (seen : Array Nat) (e : MapEntry) (he : e ∈ (leftOf es seen).toList) : (leftOf es (seen.push e.born)).size < (leftOf es seen).size := by
  have hsub : (leftOf es (seen.push e.born)).toList = (leftOf es seen).toList.filter fun x => x.born != e.born := by
    unfold leftOf
    simp only [Array.toList_filter, List.filter_filter]
    congr 1
    funext x
    by_cases h : x.born = e.born
    · simp [h]
    · simp [h, bne]
  have hlt : (leftOf es (seen.push e.born)).toList.length < (leftOf es seen).toList.length := by
    rw [hsub]
    exact List.length_filter_lt_length_iff_exists.2 ⟨e, he, by simp⟩
  simpa using hlt
/-- The step: nothing is left, or some key that was left comes out with its element. -/
theorem run_next_rng {b r : Nat} {f : Int → Option Value} {n : Nat} {left : Int → Bool} {cnt : Nat} (ty : TypeId) (h : Sat W w (sep (rng b r f n left cnt) A)) :
    ((∀ k, left k = false) ∧ (Instr.next (.pointer (some ⟨r, 0, none⟩)) false ty).run P w = .ok (.tuple #[.bool false]) w) ∨
    ∃ k v w' cnt', left k = true ∧ f k = some v ∧ cnt' < cnt ∧ (Instr.next (.pointer (some ⟨r, 0, none⟩)) false ty).run P w = .ok (.tuple #[.bool true, .int .i64 k, v]) w' ∧
      (Instr.entry (.pointer (some ⟨r, 0, none⟩))).run P w' = .ok (.tuple #[.int .i64 k, v]) w' ∧ Sat W w' (sep (rng b r f n (fun z => left z && z != k) cnt') A) := by
  obtain ⟨es, clock, since, seen, c0, h1, h2, h3, h4⟩ := h.rng_open
  rcases run_next_at (P := P) w ty r b since c0 seen es clock h4.p1.blk_heap h4.blk_heap h1.old h1.sc with ⟨h0, hrun⟩ | ⟨e, he, w1, hw1, hrun⟩
  · refine .inl ⟨fun k => ?_, hrun⟩
    cases hk : left k with
    | false => rfl
    | true =>
      obtain ⟨e, he, hek⟩ := h1.rep.mem_of_some (h1.lk k hk)
      have := h1.lf e he k hek
      rw [hk] at this
      have hm : e ∈ (leftOf es seen).toList := by unfold leftOf; simp; exact ⟨by simpa using he, by simpa using this.symm⟩
      have h00 : (leftOf es seen).toList.length = 0 := by simpa using h0
      rw [List.eq_nil_of_length_eq_zero h00] at hm
      cases hm
  · have hmem : e ∈ es.toList ∧ seen.contains e.born = false := by
      unfold leftOf at he; simp at he; exact ⟨by simpa using he.1, by simpa using he.2⟩
    obtain ⟨k, hk⟩ := h1.rep.keys e hmem.1
    have hlk := h1.lf e hmem.1 k hk
    rw [hmem.2] at hlk
    have hw1S : Sat W w1 (sep (blk r (.mapIter (some b) since seen c0)) (sep (blk b (.map es clock)) A)) := by
      rcases hw1 with rfl | rfl
      · exact h4.p1
      · exact h4.p1.drew
    have hset : Sat W (Go.ChangeMaps.setBlock w1 r (.mapIter (some b) since (seen.push e.born) clock)) (sep (blk r (.mapIter (some b) since (seen.push e.born) clock)) (sep (blk b (.map es clock)) A)) := hw1S.setObj _
    refine .inr ⟨k, e.val, _, _, by simpa using hlk, h1.rep.some_of_mem hmem.1 hk, ?_, by rw [hk] at hrun; exact hrun, ?_, hset.p1.rng_mk ⟨h1.rep, h1.born, h1.old, h1.scl, h1.scl, ?_, ?_⟩ h2 rfl⟩
    · rw [← h3]; exact leftOf_push es seen e he
    · have := run_entry_at (P := P) _ r b since seen es clock e hset.blk_heap hset.p1.blk_heap hmem.1 h1.born.nodup
      rw [hk] at this; exact this
    · intro e2 he2 k2 hk2
      rw [h1.lf e2 he2 k2 hk2, Array.contains_push]
      by_cases hkk : k2 = k
      · subst hkk
        have : e2 = e := entry_eq_of_key h1.rep.nodup he2 hmem.1 (hk2.trans hk.symm)
        subst this
        simp
      · have hb : ¬ e2.born = e.born := fun hbe => hkk (by
          have : e2 = e := born_eq h1.born.nodup he2 hmem.1 hbe
          subst this
          rw [hk2] at hk; cases hk; rfl)
        have e1 : (k2 != k) = true := by simp [hkk]
        have e2 : (e2.born == e.born) = false := by simp [hb]
        rw [e1, e2]; simp
    · intro z hz
      simp at hz
      exact h1.lk z hz.1
/-- 'm[k] = v' in a round, the key being there. -/
theorem run_update_rng {T K E : TypeId} (hT : P.underlying T = some (.map K E)) (hK : P.underlying K = some (.int .i64)) {b r : Nat} {f : Int → Option Value} {n : Nat} {left : Int → Bool} {cnt : Nat} (h : Sat W w (sep (rng b r f n left cnt) A)) (k : Int) (v : Value) (hk : (f k).isSome = true) :
    ∃ w', (Instr.mapUpdate T (.map (some b)) (.int .i64 k) v).run P w = .ok () w' ∧ Sat W w' (sep (rng b r (fset f k (some v)) n left cnt) A) := by
  obtain ⟨es, clock, since, seen, c0, h1, h2, h3, h4⟩ := h.rng_open
  obtain ⟨q, e1, e2, e3⟩ := run_findKey_int (P := P) (k := k) hK h1.rep w
  have hg := run_getObj_map (P := P) h4.blk_heap
  cases q with
  | none => rw [← e2] at hk; cases hk
  | some q =>
    obtain ⟨j, u⟩ := q
    obtain ⟨e, h5, h6, h7⟩ := e3 j u rfl
    have hkey : ((es[j]?.map (·.key)).getD (.int .i64 k)) = .int .i64 k := by
      have : es[j]? = some e := by simpa using h5
      simp [this, h6]
    have hj : j < es.toList.length := (List.getElem?_eq_some_iff.1 h5).1
    have hje : es.toList[j] = e := (List.getElem?_eq_some_iff.1 h5).2
    have hmem : ∀ x ∈ es.toList.modify j (fun x => { x with key := .int .i64 k, val := v }), ∃ y ∈ es.toList, y.born = x.born ∧ y.key = x.key := by
      intro x hx
      obtain ⟨i, hi, rfl⟩ := List.mem_iff_getElem.1 hx
      have hi2 : i < es.toList.length := by simpa using hi
      refine ⟨es.toList[i], List.getElem_mem hi2, ?_, ?_⟩
      · rw [List.getElem_modify]; split <;> rfl
      · rw [List.getElem_modify]
        split
        · rename_i hji
          subst hji
          rw [hje]; exact h6
        · rfl
    refine ⟨_, by simp [Instr.mapUpdate, run_underlying hT, hg, run_checkKey_int hK, e1, Instr.keyThatStays, hkey, sameBits_int, run_setObj_map (P := P) h4.blk_heap]; rfl, (h4.setObj _).rng_mk (since := since) (c0 := c0) (seen := seen) ⟨?_, ?_, ?_, h1.sc, h1.scl, ?_, ?_⟩ (by simp [h2]) ?_⟩
    · simpa using h1.rep.modify k v h5 h6
    · simpa using h1.born.modify j (.int .i64 k) v
    · intro x hx
      have hx' : x ∈ es.toList.modify j (fun x => { x with key := .int .i64 k, val := v }) := by simpa using hx
      obtain ⟨y, hy, hb, -⟩ := hmem x hx'
      rw [← hb]; exact h1.old y hy
    · intro x hx k2 hk2
      have hx' : x ∈ es.toList.modify j (fun x => { x with key := .int .i64 k, val := v }) := by simpa using hx
      obtain ⟨y, hy, hb, hky⟩ := hmem x hx'
      rw [← hb]; exact h1.lf y hy k2 (hky.trans hk2)
    · intro z hz
      have := h1.lk z hz
      unfold fset
      split
      · rfl
      · exact this
    · rw [← h3]
      have hL : ∀ (l : List MapEntry), (List.filter (fun e => !seen.contains e.born) (l.modify j (fun x => { x with key := .int .i64 k, val := v }))).length = (List.filter (fun e => !seen.contains e.born) l).length := by
        intro l
        rw [← List.countP_eq_length_filter, ← List.countP_eq_length_filter]
        have e := modify_born l j (.int .i64 k) v
        have c1 : ∀ (l : List MapEntry), l.countP (fun e => !seen.contains e.born) = (l.map (·.born)).countP (fun b => !seen.contains b) := fun l => by rw [List.countP_map]; rfl
        rw [c1, c1, e]
      have := hL es.toList
      rw [leftOf_size, leftOf_size, Array.toList_modify]
      exact this
end
end PA
/- Owned maps keyed by integers: 'm[k], .. = v, ..': the entry, then its store. Plain Lean, no program in sight. -/
namespace PA
open Go Go.RowKit
section
variable {P : Program} {W w : World} {A : Assn}
theorem run_entryStore {T : TypeId} {b : Nat} {es : Array MapEntry} {clock : Nat} (hb : (es.toList.map (·.born)).Nodup) {j : Nat} {e : MapEntry} (hj : es[j]? = some e) (h : Sat W w (sep (blk b (.map es clock)) A)) (v : Value) :
    ∃ w', (Instr.entryStore T (.map (some b)) (.int .i64 (e.born : Nat)) v).run P w = .ok () w' ∧ Sat W w' (sep (blk b (.map (es.modify j fun x => { x with val := v }) clock)) A) := by
  have hg2 := run_getObj_map (P := P) h.blk_heap
  have hidx : es.findIdx? (fun x => ((x.born : Nat) : Int) == ((e.born : Nat) : Int)) = some j := by
    have hsz : j < es.size := (Array.getElem?_eq_some_iff.1 hj).1
    have hje : es[j] = e := (Array.getElem?_eq_some_iff.1 hj).2
    rw [Array.findIdx?_eq_some_iff_getElem]
    refine ⟨hsz, by simp [hje], fun i hi => ?_⟩
    have hp := List.pairwise_iff_getElem.1 (List.pairwise_map.1 hb) i j (by rw [Array.length_toList]; omega) (by rw [Array.length_toList]; exact hsz) hi
    simp only [Array.getElem_toList] at hp
    rw [hje] at hp
    simp only [beq_iff_eq]
    intro hq
    exact hp (by omega)
  exact ⟨_, by simp [Instr.entryStore, hg2, asInt, asIntOf, hidx, run_setObj_map (P := P) h.blk_heap], h.setObj _⟩
theorem modify_val {es : List MapEntry} {j : Nat} {e : MapEntry} {k : Value} (h1 : es[j]? = some e) (h2 : e.key = k) (v : Value) : es.modify j (fun x => { x with val := v }) = es.modify j fun x => { x with key := k, val := v } := by
  apply List.ext_getElem?
  intro i
  rw [List.getElem?_modify, List.getElem?_modify]
  by_cases hi : j = i
  · subst hi; rw [h1]; simp [← h2]
  · simp [hi]
theorem run_entry_bmap {T K E : TypeId} {z : Value} (hT : P.underlying T = some (.map K E)) (hK : P.underlying K = some (.int .i64)) (hz : ∀ w, (zeroValue E).run P w = .ok z w) {b : Nat} {f : Int → Option Value} {n : Nat} (h : Sat W w (sep (bmap b f n) A)) (k : Int) :
    ∃ (v0 : Value) (st : Int) (w1 : World) (X : Assn), (Instr.mapEntry T (.map (some b)) (.int .i64 k)).run P w = .ok (.tuple #[v0, .int .i64 st]) w1 ∧ Sat W w1 (sep X A) ∧
      ∀ (w2 : World) (B : Assn) (v : Value), Sat W w2 (sep X B) → ∃ w3 n', (Instr.entryStore T (.map (some b)) (.int .i64 st) v).run P w2 = .ok () w3 ∧ Sat W w3 (sep (bmap b (fset f k (some v)) n') B) := by
  obtain ⟨es, clock, h1, h2, hb, h3⟩ := h.bmap_open
  obtain ⟨r, e1, e2, e3⟩ := run_findKey_int (P := P) (k := k) hK h1 w
  have hg := run_getObj_map (P := P) h3.blk_heap
  cases r with
  | none =>
    have hk : f k = none := by rw [← e2]; rfl
    have hp := hb.push (.int .i64 k) z
    refine ⟨z, (clock : Int), _, blk b (.map (es.push { key := .int .i64 k, val := z, born := clock }) (clock + 1)), by simp [Instr.mapEntry, run_underlying hT, hg, run_checkKey_int hK, e1, hz, run_setObj_map (P := P) h3.blk_heap, goInt], h3.setObj _, fun w2 B v hw2 => ?_⟩
    obtain ⟨w3, r3, h4⟩ := run_entryStore (T := T) (P := P) (j := es.size) (e := { key := .int .i64 k, val := z, born := clock }) (by simpa using hp.nodup) (by simp) hw2 v
    have hmod : ((es.push { key := Value.int .i64 k, val := z, born := clock }).modify es.size fun x => { x with val := v }).toList = es.toList ++ [{ key := Value.int .i64 k, val := v, born := clock }] := by
      rw [Array.toList_modify, Array.toList_push]
      apply List.ext_getElem?
      intro i
      rw [List.getElem?_modify]
      by_cases hi : es.size = i
      · subst hi
        have : es.toList.length = es.size := Array.length_toList
        simp
      · simp only [hi, if_false]
        by_cases hlt : i < es.size
        · rw [List.getElem?_append_left (by simpa using hlt), List.getElem?_append_left (by simpa using hlt)]; simp
        · rw [List.getElem?_append_right (by simp; omega), List.getElem?_append_right (by simp; omega)]
          have : i - es.toList.length ≠ 0 := by simp; omega
          obtain ⟨m, hm⟩ : ∃ m, i - es.toList.length = m + 1 := ⟨i - es.toList.length - 1, by omega⟩
          rw [hm]; simp
    refine ⟨w3, _, r3, h4.bmap_mk ?_ rfl ?_⟩
    · rw [hmod]; exact h1.push k v clock hk
    · rw [hmod]; exact hb.push (.int .i64 k) v
  | some r =>
    obtain ⟨j, u⟩ := r
    obtain ⟨e, h4, h5, h6⟩ := e3 j u rfl
    have hk : (f k).isSome = true := by rw [← e2]; rfl
    have hj : es[j]? = some e := by simpa using h4
    have hsame : es.modify j (fun x => { x with key := .int .i64 k }) = es := by
      apply Array.ext'
      rw [Array.toList_modify]
      apply List.ext_getElem?
      intro i
      rw [List.getElem?_modify]
      by_cases hi : j = i
      · subst hi; rw [h4]; simp [← h5]
      · simp [hi]
    refine ⟨u, (e.born : Int), _, blk b (.map es clock), by simp [Instr.mapEntry, run_underlying hT, hg, run_checkKey_int hK, e1, hj, h5, Instr.keyThatStays, sameBits_int, hsame, run_setObj_map (P := P) h3.blk_heap, goInt], h3.setObj _, fun w2 B v hw2 => ?_⟩
    obtain ⟨w3, r3, h7⟩ := run_entryStore (T := T) (P := P) hb.nodup hj hw2 v
    refine ⟨w3, _, r3, h7.bmap_mk ?_ rfl ?_⟩
    · rw [Array.toList_modify, modify_val h4 h5]; exact h1.modify k v h4 h5
    · rw [Array.toList_modify, modify_val h4 h5]; exact hb.modify j (.int .i64 k) v
end
end PA
