/- Owned maps keyed by integers whose entries bear stamps, and a range over such a map. Plain Lean, no program in sight. -/
import Derived.Test.YtcmjbjlliehdiaaDoorGAuthmapApartSVal
import Derived.Maps.RangeWalk
import Derived.DeepKeys3
namespace PA
open Go Go.RowKit
structure Born (es : List MapEntry) (clock : Nat) : Prop where
  lt : ∀ e ∈ es, e.born < clock
  nodup : (es.map (·.born)).Nodup
theorem Born.nil (c : Nat) : Born [] c := ⟨fun _ h => (by cases h), .nil⟩
theorem born_eq : ∀ {l : List MapEntry}, (l.map (·.born)).Nodup → ∀ {x y : MapEntry}, x ∈ l → y ∈ l → x.born = y.born → x = y
  | [], _, _, _, hx, _, _ => by cases hx
  | a :: l, hn, x, y, hx, hy, h => by
    rw [List.map_cons, List.nodup_cons] at hn
    rcases List.mem_cons.1 hx with rfl | hx'
    · rcases List.mem_cons.1 hy with rfl | hy'
      · rfl
      · exact absurd (List.mem_map.2 ⟨y, hy', h.symm⟩) hn.1
    · rcases List.mem_cons.1 hy with rfl | hy'
      · exact absurd (List.mem_map.2 ⟨x, hx', h⟩) hn.1
      · exact born_eq hn.2 hx' hy' h
theorem Born.push {es : List MapEntry} {c : Nat} (h : Born es c) (k v : Value) : Born (es ++ [{ key := k, val := v, born := c }]) (c + 1) := by
  refine ⟨fun e he => ?_, ?_⟩
  · rcases List.mem_append.1 he with he | he
    · have := h.lt e he; omega
    · rw [List.mem_singleton.1 he]; exact Nat.lt_succ_self c
  · rw [List.map_append, List.map_cons, List.map_nil]
    refine List.nodup_append.2 ⟨h.nodup, by simp, fun x hx y hy => ?_⟩
    obtain ⟨e, he, rfl⟩ := List.mem_map.1 hx
    rw [List.mem_singleton.1 hy]
    have h1 := h.lt e he
    show e.born ≠ c
    omega
theorem modify_born (es : List MapEntry) (j : Nat) (k v : Value) : (es.modify j fun x => { x with key := k, val := v }).map (·.born) = es.map (·.born) := by
  apply List.ext_getElem
  · simp
  · intro i h1 h2
    simp only [List.getElem_map, List.getElem_modify]
    split <;> rfl
theorem Born.modify {es : List MapEntry} {c : Nat} (h : Born es c) (j : Nat) (k v : Value) : Born (es.modify j fun x => { x with key := k, val := v }) c := by
  refine ⟨fun e he => ?_, by rw [modify_born]; exact h.nodup⟩
  have : e.born ∈ (es.modify j fun x => { x with key := k, val := v }).map (·.born) := List.mem_map.2 ⟨e, he, rfl⟩
  rw [modify_born] at this
  obtain ⟨e', he', e2⟩ := List.mem_map.1 this
  rw [← e2]; exact h.lt e' he'
theorem Born.erase {es : List MapEntry} {c : Nat} (h : Born es c) (j : Nat) : Born (es.eraseIdx j) c :=
  ⟨fun e he => h.lt e ((List.eraseIdx_sublist es j).mem he), h.nodup.sublist ((List.eraseIdx_sublist es j).map _)⟩
def bmap (b : Nat) (f : Int → Option Value) (n : Nat) : Assn := ex fun s : Array MapEntry × Nat => sep (fact (MapRep s.1.toList f ∧ s.1.size = n ∧ Born s.1.toList s.2)) (blk b (.map s.1 s.2))
section
variable {P : Program} {W w : World} {A : Assn}
theorem Sat.bmap_open {b : Nat} {f : Int → Option Value} {n : Nat} (h : Sat W w (sep (bmap b f n) A)) : ∃ es clock, MapRep es.toList f ∧ es.size = n ∧ Born es.toList clock ∧ Sat W w (sep (blk b (.map es clock)) A) := by
  rw [bmap, ex_sep, Sat.ex] at h
  obtain ⟨⟨es, clock⟩, h⟩ := h
  rw [sep_assoc] at h
  have h' := Sat.fact.1 h
  exact ⟨es, clock, h'.1.1, h'.1.2.1, h'.1.2.2, h'.2⟩
theorem Sat.bmap_mk {b : Nat} {f : Int → Option Value} {n : Nat} {es : Array MapEntry} {clock : Nat} (h : Sat W w (sep (blk b (.map es clock)) A)) (h1 : MapRep es.toList f) (h2 : es.size = n) (h3 : Born es.toList clock) : Sat W w (sep (bmap b f n) A) := by
  rw [bmap, ex_sep, Sat.ex]
  refine ⟨(es, clock), ?_⟩
  rw [sep_assoc]
  exact Sat.fact.2 ⟨⟨h1, h2, h3⟩, h⟩
theorem Sat.bmap_imap {b : Nat} {f : Int → Option Value} {n : Nat} (h : Sat W w (sep (bmap b f n) A)) : Sat W w (sep (imap b f n) A) := by
  obtain ⟨es, clock, h1, h2, -, h4⟩ := h.bmap_open
  exact h4.imap_mk h1 h2
theorem Sat.bmap_new (h : Sat W w A) : Sat W (w.alloc (.map #[] 0)) (sep (bmap w.heap.size (fun _ => none) 0) A) :=
  (h.alloc (.map #[] 0)).bmap_mk MapRep.nil rfl (Born.nil 0)
/-- 'm[k]', 'v, ok := m[k]'. -/
theorem run_lookup_bmap {T K E : TypeId} {z : Value} (hT : P.underlying T = some (.map K E)) (hK : P.underlying K = some (.int .i64)) (hz : ∀ w, (zeroValue E).run P w = .ok z w)
    {b : Nat} {f : Int → Option Value} {n : Nat} (h : Sat W w (sep (bmap b f n) A)) (k : Int) (ok : Bool) :
    (Instr.lookup T (.map (some b)) (.int .i64 k) ok).run P w = .ok (if ok then .tuple #[(f k).getD z, .bool (f k).isSome] else (f k).getD z) w := run_lookup_imap hT hK hz h.bmap_imap k ok
/-- 'm[k] = v', whether the key was there or not. -/
theorem run_update_bmap {T K E : TypeId} (hT : P.underlying T = some (.map K E)) (hK : P.underlying K = some (.int .i64)) {b : Nat} {f : Int → Option Value} {n : Nat} (h : Sat W w (sep (bmap b f n) A)) (k : Int) (v : Value) :
    ∃ w' n', (Instr.mapUpdate T (.map (some b)) (.int .i64 k) v).run P w = .ok () w' ∧ n' = (if (f k).isSome then n else n + 1) ∧ Sat W w' (sep (bmap b (fset f k (some v)) n') A) := by
  obtain ⟨es, clock, h1, h2, hb, h3⟩ := h.bmap_open
  obtain ⟨r, e1, e2, e3⟩ := run_findKey_int (P := P) (k := k) hK h1 w
  have hg := run_getObj_map (P := P) h3.blk_heap
  cases r with
  | none =>
    have hk : f k = none := by rw [← e2]; rfl
    refine ⟨_, n + 1, by simp [Instr.mapUpdate, run_underlying hT, hg, run_checkKey_int hK, e1, run_setObj_map (P := P) h3.blk_heap]; rfl, by simp [hk], (h3.setObj _).bmap_mk ?_ (by simp [h2]) ?_⟩
    · simpa using h1.push k v clock hk
    · simpa using hb.push (.int .i64 k) v
  | some r =>
    obtain ⟨j, u⟩ := r
    obtain ⟨e, h4, h5, h6⟩ := e3 j u rfl
    have hk : (f k).isSome = true := by rw [← e2]; rfl
    have hkey : ((es[j]?.map (·.key)).getD (.int .i64 k)) = .int .i64 k := by
      have : es[j]? = some e := by simpa using h4
      simp [this, h5]
    refine ⟨_, n, by simp [Instr.mapUpdate, run_underlying hT, hg, run_checkKey_int hK, e1, Instr.keyThatStays, hkey, sameBits_int, run_setObj_map (P := P) h3.blk_heap]; rfl, by simp [hk], (h3.setObj _).bmap_mk ?_ (by simp [h2]) ?_⟩
    · simpa using h1.modify k v h4 h5
    · simpa using hb.modify j (.int .i64 k) v
/-- 'delete(m, k)', the key there before. -/
theorem run_delete_bmap {T K E ty : TypeId} {u : TypeId} (hT : P.underlying T = some (.map K E)) (hK : P.underlying K = some (.int .i64)) {b : Nat} {f : Int → Option Value} {n : Nat} (h : Sat W w (sep (bmap b f n) A)) (k : Int) (hk : (f k).isSome = true) :
    ∃ w', (Builtin.delete_ #[T, u] ty #[.map (some b), .int .i64 k]).run P w = .ok (.tuple #[]) w' ∧ Sat W w' (sep (bmap b (fset f k none) (n - 1)) A) := by
  obtain ⟨es, clock, h1, h2, hb, h3⟩ := h.bmap_open
  obtain ⟨r, e1, e2, e3⟩ := run_findKey_int (P := P) (k := k) hK h1 w
  have hg := run_getObj_map (P := P) h3.blk_heap
  cases r with
  | none => rw [← e2] at hk; cases hk
  | some r =>
    obtain ⟨j, u⟩ := r
    obtain ⟨e, h4, h5, h6⟩ := e3 j u rfl
    have hj : j < es.size := by have := (List.getElem?_eq_some_iff.1 h4).1; simpa using this
    refine ⟨_, by simp [Builtin.delete_, run_underlying hT, hg, run_checkKey_int hK, e1, run_setObj_map (P := P) h3.blk_heap]; rfl, (h3.setObj _).bmap_mk ?_ (by subst h2; simp [Array.eraseIdxIfInBounds, hj]) ?_⟩
    · simpa [Array.eraseIdxIfInBounds, hj] using h1.erase k h4 h5
    · simpa [Array.eraseIdxIfInBounds, hj] using hb.erase j
/-! ### a range -/
structure RngOK (es : List MapEntry) (f : Int → Option Value) (clock since c0 : Nat) (seen : Array Nat) (left : Int → Bool) : Prop where
  rep : MapRep es f
  born : Born es clock
  old : ∀ e ∈ es, e.born < since
  sc : since ≤ c0
  scl : since ≤ clock
  lf : ∀ e ∈ es, ∀ k, e.key = .int .i64 k → left k = !seen.contains e.born
  lk : ∀ k, left k = true → (f k).isSome = true
/-- A range over map b by the iterator r is under way: left k: key k is still to come. -/
def rng (b r : Nat) (f : Int → Option Value) (n : Nat) (left : Int → Bool) (cnt : Nat) : Assn := ex fun s : Array MapEntry × Nat × Nat × Array Nat × Nat =>
  sep (fact (RngOK s.1.toList f s.2.1 s.2.2.1 s.2.2.2.2 s.2.2.2.1 left ∧ s.1.size = n ∧ (leftOf s.1 s.2.2.2.1).size = cnt)) (sep (blk b (.map s.1 s.2.1)) (blk r (.mapIter (some b) s.2.2.1 s.2.2.2.1 s.2.2.2.2)))
theorem Sat.rng_open {b r : Nat} {f : Int → Option Value} {n : Nat} {left : Int → Bool} {cnt : Nat} (h : Sat W w (sep (rng b r f n left cnt) A)) :
    ∃ es clock since seen c0, RngOK es.toList f clock since c0 seen left ∧ es.size = n ∧ (leftOf es seen).size = cnt ∧ Sat W w (sep (blk b (.map es clock)) (sep (blk r (.mapIter (some b) since seen c0)) A)) := by
  rw [rng, ex_sep, Sat.ex] at h
  obtain ⟨⟨es, clock, since, seen, c0⟩, h⟩ := h
  rw [sep_assoc, sep_assoc] at h
  have h' := Sat.fact.1 h
  exact ⟨es, clock, since, seen, c0, h'.1.1, h'.1.2.1, h'.1.2.2, h'.2⟩
theorem Sat.rng_mk {b r : Nat} {f : Int → Option Value} {n : Nat} {left : Int → Bool} {cnt : Nat} {es : Array MapEntry} {clock since c0 : Nat} {seen : Array Nat}
    (h : Sat W w (sep (blk b (.map es clock)) (sep (blk r (.mapIter (some b) since seen c0)) A))) (h1 : RngOK es.toList f clock since c0 seen left) (h2 : es.size = n) (h3 : (leftOf es seen).size = cnt) : Sat W w (sep (rng b r f n left cnt) A) := by
  rw [rng, ex_sep, Sat.ex]
  refine ⟨(es, clock, since, seen, c0), ?_⟩
  rw [sep_assoc, sep_assoc]
  exact Sat.fact.2 ⟨⟨h1, h2, h3⟩, h⟩
theorem Sat.rng_left {b r : Nat} {f : Int → Option Value} {n : Nat} {left : Int → Bool} {cnt : Nat} (h : Sat W w (sep (rng b r f n left cnt) A)) : w.rangeLeft b r = cnt := by
  obtain ⟨es, clock, since, seen, c0, -, -, h3, h4⟩ := h.rng_open
  simp only [World.rangeLeft, h4.blk_heap, h4.p1.blk_heap]
  exact h3
theorem Sat.rng_end {b r : Nat} {f : Int → Option Value} {n : Nat} {left : Int → Bool} {cnt : Nat} (h : Sat W w (sep (rng b r f n left cnt) A)) : Sat W w (sep (bmap b f n) A) := by
  obtain ⟨es, clock, since, seen, c0, h1, h2, -, h4⟩ := h.rng_open
  exact h4.p1.drop.bmap_mk h1.rep h2 h1.born
theorem MapRep.some_of_mem {es : List MapEntry} {f : Int → Option Value} (h : MapRep es f) {e : MapEntry} (he : e ∈ es) {k : Int} (hk : e.key = .int .i64 k) : f k = some e.val := by
  rw [← h.get k]
  cases hf : es.find? (keyIs k) with
  | none => rw [List.find?_eq_none] at hf; exact absurd (by simp [keyIs, hk]) (hf e he)
  | some x =>
    have hx := List.mem_of_find?_eq_some hf
    obtain ⟨n, hn⟩ := h.keys x hx
    have hp := List.find?_some hf
    simp [keyIs, hn] at hp
    subst hp
    have := entry_eq_of_key h.nodup hx he (hn.trans hk.symm)
    rw [this]; rfl
theorem MapRep.mem_of_some {es : List MapEntry} {f : Int → Option Value} (h : MapRep es f) {k : Int} (hk : (f k).isSome = true) : ∃ e ∈ es, e.key = .int .i64 k := by
  rw [← h.get k] at hk
  cases hf : es.find? (keyIs k) with
  | none => rw [hf] at hk; cases hk
  | some x =>
    have hx := List.mem_of_find?_eq_some hf
    obtain ⟨n, hn⟩ := h.keys x hx
    have hp := List.find?_some hf
    simp [keyIs, hn] at hp
    subst hp
    exact ⟨x, hx, hn⟩
/-- 'range m'. -/
theorem run_range_bmap {T K E : TypeId} (hT : P.underlying T = some (.map K E)) {b : Nat} {f : Int → Option Value} {n : Nat} (h : Sat W w (sep (bmap b f n) A)) :
    ∃ w', (Instr.range T (.map (some b))).run P w = .ok (.pointer (some ⟨w.heap.size, 0, none⟩)) w' ∧ Sat W w' (sep (rng b w.heap.size f n (fun k => (f k).isSome) n) A) := by
  obtain ⟨es, clock, h1, h2, hb, h3⟩ := h.bmap_open
  have hg := run_getObj_map (P := P) h3.blk_heap
  refine ⟨w.alloc (.mapIter (some b) clock #[] clock), by simp [Instr.range, run_underlying hT, hg], ?_⟩
  refine ((h3.alloc (.mapIter (some b) clock #[] clock)).p1).rng_mk ⟨h1, hb, hb.lt, Nat.le_refl _, Nat.le_refl _, fun e he k hk => ?_, fun k hk => hk⟩ h2 ?_
  · rw [h1.some_of_mem he hk]; simp
  · rw [← h2]; simp [leftOf]
theorem leftOf_size (es : Array MapEntry) (seen : Array Nat) : (leftOf es seen).size = (es.toList.filter fun e => !seen.contains e.born).length := by
  unfold leftOf; rw [← Array.length_toList, Array.toList_filter]
theorem leftOf_push (es : Array MapEntry) (seen : Array Nat) (e : MapEntry) (he : e ∈ (leftOf es seen).toList) : (leftOf es (seen.push e.born)).size < (leftOf es seen).size := by
  have hsub : (leftOf es (seen.push e.born)).toList = (leftOf es seen).toList.filter fun x => x.born != e.born := by
    unfold leftOf
    simp only [Array.toList_filter, List.filter_filter]
    congr 1
    funext x
    by_cases h : x.born = e.born
    · simp [h]
    · simp [h, bne]
  have hlt : (leftOf es (seen.push e.born)).toList.length < (leftOf es seen).toList.length := by
    rw [hsub]
    exact List.length_filter_lt_length_iff_exists.2 ⟨e, he, by simp⟩
  simpa using hlt
/-- The step: nothing is left, or some key that was left comes out with its element. -/
theorem run_next_rng {b r : Nat} {f : Int → Option Value} {n : Nat} {left : Int → Bool} {cnt : Nat} (ty : TypeId) (h : Sat W w (sep (rng b r f n left cnt) A)) :
    ((∀ k, left k = false) ∧ (Instr.next (.pointer (some ⟨r, 0, none⟩)) false ty).run P w = .ok (.tuple #[.bool false]) w) ∨
    ∃ k v w' cnt', left k = true ∧ f k = some v ∧ cnt' < cnt ∧ (Instr.next (.pointer (some ⟨r, 0, none⟩)) false ty).run P w = .ok (.tuple #[.bool true, .int .i64 k, v]) w' ∧
      (Instr.entry (.pointer (some ⟨r, 0, none⟩))).run P w' = .ok (.tuple #[.int .i64 k, v]) w' ∧ Sat W w' (sep (rng b r f n (fun z => left z && z != k) cnt') A) := by
  obtain ⟨es, clock, since, seen, c0, h1, h2, h3, h4⟩ := h.rng_open
  rcases run_next_at (P := P) w ty r b since c0 seen es clock h4.p1.blk_heap h4.blk_heap h1.old h1.sc with ⟨h0, hrun⟩ | ⟨e, he, w1, hw1, hrun⟩
  · refine .inl ⟨fun k => ?_, hrun⟩
    cases hk : left k with
    | false => rfl
    | true =>
      obtain ⟨e, he, hek⟩ := h1.rep.mem_of_some (h1.lk k hk)
      have := h1.lf e he k hek
      rw [hk] at this
      have hm : e ∈ (leftOf es seen).toList := by unfold leftOf; simp; exact ⟨by simpa using he, by simpa using this.symm⟩
      have h00 : (leftOf es seen).toList.length = 0 := by simpa using h0
      rw [List.eq_nil_of_length_eq_zero h00] at hm
      cases hm
  · have hmem : e ∈ es.toList ∧ seen.contains e.born = false := by
      unfold leftOf at he; simp at he; exact ⟨by simpa using he.1, by simpa using he.2⟩
    obtain ⟨k, hk⟩ := h1.rep.keys e hmem.1
    have hlk := h1.lf e hmem.1 k hk
    rw [hmem.2] at hlk
    have hw1S : Sat W w1 (sep (blk r (.mapIter (some b) since seen c0)) (sep (blk b (.map es clock)) A)) := by
      rcases hw1 with rfl | rfl
      · exact h4.p1
      · exact h4.p1.drew
    have hset : Sat W (Go.ChangeMaps.setBlock w1 r (.mapIter (some b) since (seen.push e.born) clock)) (sep (blk r (.mapIter (some b) since (seen.push e.born) clock)) (sep (blk b (.map es clock)) A)) := hw1S.setObj _
    refine .inr ⟨k, e.val, _, _, by simpa using hlk, h1.rep.some_of_mem hmem.1 hk, ?_, by rw [hk] at hrun; exact hrun, ?_, hset.p1.rng_mk ⟨h1.rep, h1.born, h1.old, h1.scl, h1.scl, ?_, ?_⟩ h2 rfl⟩
    · rw [← h3]; exact leftOf_push es seen e he
    · have := run_entry_at (P := P) _ r b since seen es clock e hset.blk_heap hset.p1.blk_heap hmem.1 h1.born.nodup
      rw [hk] at this; exact this
    · intro e2 he2 k2 hk2
      rw [h1.lf e2 he2 k2 hk2, Array.contains_push]
      by_cases hkk : k2 = k
      · subst hkk
        have : e2 = e := entry_eq_of_key h1.rep.nodup he2 hmem.1 (hk2.trans hk.symm)
        subst this
        simp
      · have hb : ¬ e2.born = e.born := fun hbe => hkk (by
          have : e2 = e := born_eq h1.born.nodup he2 hmem.1 hbe
          subst this
          rw [hk2] at hk; cases hk; rfl)
        have e1 : (k2 != k) = true := by simp [hkk]
        have e2 : (e2.born == e.born) = false := by simp [hb]
        rw [e1, e2]; simp
    · intro z hz
      simp at hz
      exact h1.lk z hz.1
/-- 'm[k] = v' in a round, the key being there. -/
theorem run_update_rng {T K E : TypeId} (hT : P.underlying T = some (.map K E)) (hK : P.underlying K = some (.int .i64)) {b r : Nat} {f : Int → Option Value} {n : Nat} {left : Int → Bool} {cnt : Nat} (h : Sat W w (sep (rng b r f n left cnt) A)) (k : Int) (v : Value) (hk : (f k).isSome = true) :
    ∃ w', (Instr.mapUpdate T (.map (some b)) (.int .i64 k) v).run P w = .ok () w' ∧ Sat W w' (sep (rng b r (fset f k (some v)) n left cnt) A) := by
  obtain ⟨es, clock, since, seen, c0, h1, h2, h3, h4⟩ := h.rng_open
  obtain ⟨q, e1, e2, e3⟩ := run_findKey_int (P := P) (k := k) hK h1.rep w
  have hg := run_getObj_map (P := P) h4.blk_heap
  cases q with
  | none => rw [← e2] at hk; cases hk
  | some q =>
    obtain ⟨j, u⟩ := q
    obtain ⟨e, h5, h6, h7⟩ := e3 j u rfl
    have hkey : ((es[j]?.map (·.key)).getD (.int .i64 k)) = .int .i64 k := by
      have : es[j]? = some e := by simpa using h5
      simp [this, h6]
    have hj : j < es.toList.length := (List.getElem?_eq_some_iff.1 h5).1
    have hje : es.toList[j] = e := (List.getElem?_eq_some_iff.1 h5).2
    have hmem : ∀ x ∈ es.toList.modify j (fun x => { x with key := .int .i64 k, val := v }), ∃ y ∈ es.toList, y.born = x.born ∧ y.key = x.key := by
      intro x hx
      obtain ⟨i, hi, rfl⟩ := List.mem_iff_getElem.1 hx
      have hi2 : i < es.toList.length := by simpa using hi
      refine ⟨es.toList[i], List.getElem_mem hi2, ?_, ?_⟩
      · rw [List.getElem_modify]; split <;> rfl
      · rw [List.getElem_modify]
        split
        · rename_i hji
          subst hji
          rw [hje]; exact h6
        · rfl
    refine ⟨_, by simp [Instr.mapUpdate, run_underlying hT, hg, run_checkKey_int hK, e1, Instr.keyThatStays, hkey, sameBits_int, run_setObj_map (P := P) h4.blk_heap]; rfl, (h4.setObj _).rng_mk (since := since) (c0 := c0) (seen := seen) ⟨?_, ?_, ?_, h1.sc, h1.scl, ?_, ?_⟩ (by simp [h2]) ?_⟩
    · simpa using h1.rep.modify k v h5 h6
    · simpa using h1.born.modify j (.int .i64 k) v
    · intro x hx
      have hx' : x ∈ es.toList.modify j (fun x => { x with key := .int .i64 k, val := v }) := by simpa using hx
      obtain ⟨y, hy, hb, -⟩ := hmem x hx'
      rw [← hb]; exact h1.old y hy
    · intro x hx k2 hk2
      have hx' : x ∈ es.toList.modify j (fun x => { x with key := .int .i64 k, val := v }) := by simpa using hx
      obtain ⟨y, hy, hb, hky⟩ := hmem x hx'
      rw [← hb]; exact h1.lf y hy k2 (hky.trans hk2)
    · intro z hz
      have := h1.lk z hz
      unfold fset
      split
      · rfl
      · exact this
    · rw [← h3]
      have hL : ∀ (l : List MapEntry), (List.filter (fun e => !seen.contains e.born) (l.modify j (fun x => { x with key := .int .i64 k, val := v }))).length = (List.filter (fun e => !seen.contains e.born) l).length := by
        intro l
        rw [← List.countP_eq_length_filter, ← List.countP_eq_length_filter]
        have e := modify_born l j (.int .i64 k) v
        have c1 : ∀ (l : List MapEntry), l.countP (fun e => !seen.contains e.born) = (l.map (·.born)).countP (fun b => !seen.contains b) := fun l => by rw [List.countP_map]; rfl
        rw [c1, c1, e]
      have := hL es.toList
      rw [leftOf_size, leftOf_size, Array.toList_modify]
      exact this
end
end PA
/- Owned maps whose keys are any comparable values (a struct of numbers, say), with stamps, and a range over such a map. Plain Lean, no program in sight. -/
namespace PA
open Go Go.RowKit
/-- What is asked of a kind of keys: enc is how a key lies in memory. -/
structure GKey (P : Program) (K : TypeId) {κ : Type} (enc : κ → Value) : Prop where
  inj : ∀ a b, enc a = enc b → a = b
  check : ∀ (w : World) (em : Bool) a, (Instr.checkKey em 10000 K (enc a)).run P w = .ok () w
  find : ∀ (w : World) a (es : List MapEntry), (∀ e ∈ es, ∃ k, e.key = enc k) →
    ((Instr.findKey K (enc a) es).run P w = .ok none w ∧ ∀ e ∈ es, e.key ≠ enc a) ∨ ∃ j e, (Instr.findKey K (enc a) es).run P w = .ok (some (j, e.val)) w ∧ es[j]? = some e ∧ e.key = enc a
  stays : ∀ (w : World) a, (Instr.keyThatStays (enc a) (enc a)).run P w = .ok (enc a) w
theorem GKey.of_law {P : Program} {K : TypeId} {κ : Type} {enc : κ → Value} (h : WideMaps.KeyLaw P K) (hi : ∀ a b, enc a = enc b → a = b) (hk : ∀ a, ∃ l, keyOf P K (enc a) = some l) : GKey P K enc := by
  refine ⟨hi, fun w em a => ?_, fun w a es he => ?_, fun w a => ?_⟩
  · obtain ⟨l, hl⟩ := hk a
    exact h.check w em hl
  · obtain ⟨l, hl⟩ := hk a
    exact h.find w hl es fun e h' => by
      obtain ⟨k, hke⟩ := he e h'
      obtain ⟨l', hl'⟩ := hk k
      exact ⟨l', by rw [hke]; exact hl'⟩
  · obtain ⟨l, hl⟩ := hk a
    exact h.stays w hl
section
variable {κ : Type} {enc : κ → Value}
structure GRep (enc : κ → Value) (es : List MapEntry) (f : κ → Option Value) : Prop where
  keys : ∀ e ∈ es, ∃ k, e.key = enc k
  nodup : es.Pairwise fun x y => x.key ≠ y.key
  get : ∀ k v, f k = some v ↔ ∃ e ∈ es, e.key = enc k ∧ e.val = v
theorem GRep.nil : GRep enc [] (fun _ => none) := ⟨fun _ h => (by cases h), .nil, fun _ _ => by simp⟩
theorem key_eq {es : List MapEntry} (hn : es.Pairwise fun x y => x.key ≠ y.key) {x y : MapEntry} (hx : x ∈ es) (hy : y ∈ es) (h : x.key = y.key) : x = y := by
  obtain ⟨i, hi, rfl⟩ := List.mem_iff_getElem.1 hx
  obtain ⟨j, hj, rfl⟩ := List.mem_iff_getElem.1 hy
  rcases Nat.lt_trichotomy i j with h' | rfl | h'
  · exact absurd h (List.pairwise_iff_getElem.1 hn i j hi hj h')
  · rfl
  · exact absurd h.symm (List.pairwise_iff_getElem.1 hn j i hj hi h')
theorem GRep.isNo {es : List MapEntry} {f : κ → Option Value} (h : GRep enc es f) {k : κ} (hk : ∀ e ∈ es, e.key ≠ enc k) : f k = none := by
  cases hf : f k with
  | none => rfl
  | some v => obtain ⟨e, he, h1, -⟩ := (h.get k v).1 hf; exact absurd h1 (hk e he)
theorem GRep.isSo {es : List MapEntry} {f : κ → Option Value} (h : GRep enc es f) {e : MapEntry} (he : e ∈ es) {k : κ} (hk : e.key = enc k) : f k = some e.val := (h.get k e.val).2 ⟨e, he, hk, rfl⟩
open Classical in
noncomputable def gset {α : Type} (f : κ → Option α) (k : κ) (v : Option α) : κ → Option α := fun x => if x = k then v else f x
theorem gset_same {α : Type} (f : κ → Option α) (k : κ) (v : Option α) : gset f k v k = v := if_pos rfl
theorem gset_other {α : Type} (f : κ → Option α) {k x : κ} (v : Option α) (h : x ≠ k) : gset f k v x = f x := if_neg h
theorem GRep.push (hi : ∀ a b, enc a = enc b → a = b) {es : List MapEntry} {f : κ → Option Value} (h : GRep enc es f) (k : κ) (v : Value) (c : Nat) (hk : ∀ e ∈ es, e.key ≠ enc k) : GRep enc (es ++ [{ key := enc k, val := v, born := c }]) (gset f k (some v)) := by
  refine ⟨fun e he => ?_, List.pairwise_append.2 ⟨h.nodup, by simp, fun x hx y hy => ?_⟩, fun x u => ?_⟩
  · rcases List.mem_append.1 he with he | he
    · exact h.keys e he
    · simp at he; subst he; exact ⟨k, rfl⟩
  · simp at hy; subst hy; exact hk x hx
  · by_cases e : x = k
    · subst e
      rw [gset_same]
      constructor
      · rintro ⟨⟩; exact ⟨{ key := enc x, val := v, born := c }, by simp, rfl, rfl⟩
      · rintro ⟨e, he, h1, rfl⟩
        rcases List.mem_append.1 he with he | he
        · exact absurd h1 (hk e he)
        · simp at he; subst he; rfl
    · rw [gset_other _ _ e, h.get]
      constructor
      · rintro ⟨y, hy, h1, h2⟩; exact ⟨y, by simp [hy], h1, h2⟩
      · rintro ⟨y, hy, h1, h2⟩
        rcases List.mem_append.1 hy with hy | hy
        · exact ⟨y, hy, h1, h2⟩
        · simp at hy; subst hy; exact absurd (hi _ _ h1).symm e
theorem GRep.erase (hi : ∀ a b, enc a = enc b → a = b) {es : List MapEntry} {f : κ → Option Value} (h : GRep enc es f) (k : κ) {j : Nat} {e : MapEntry} (hj : es[j]? = some e) (he : e.key = enc k) : GRep enc (es.eraseIdx j) (gset f k none) := by
  have hsub := List.eraseIdx_sublist es j
  obtain ⟨hj1, hj2⟩ := List.getElem?_eq_some_iff.1 hj
  have hno : ∀ x ∈ es.eraseIdx j, x.key ≠ enc k := fun x hx hxk => by
    obtain ⟨i, hne, hi⟩ := List.mem_eraseIdx_iff_getElem?.1 hx
    obtain ⟨hi1, hi2⟩ := List.getElem?_eq_some_iff.1 hi
    rcases Nat.lt_trichotomy i j with h3 | h3 | h3
    · exact List.pairwise_iff_getElem.1 h.nodup i j hi1 hj1 h3 (by rw [hi2, hj2, hxk, he])
    · exact hne h3
    · exact List.pairwise_iff_getElem.1 h.nodup j i hj1 hi1 h3 (by rw [hi2, hj2, hxk, he])
  refine ⟨fun x hx => h.keys x (hsub.mem hx), h.nodup.sublist hsub, fun x u => ?_⟩
  by_cases e' : x = k
  · subst e'
    rw [gset_same]
    constructor
    · rintro ⟨⟩
    · rintro ⟨y, hy, h1, -⟩; exact absurd h1 (hno y hy)
  · rw [gset_other _ _ e', h.get]
    constructor
    · rintro ⟨y, hy, h1, h2⟩
      refine ⟨y, ?_, h1, h2⟩
      obtain ⟨i, hi1, hi2⟩ := List.mem_iff_getElem.1 hy
      refine List.mem_eraseIdx_iff_getElem?.2 ⟨i, fun hij => ?_, by rw [List.getElem?_eq_getElem hi1, hi2]⟩
      subst hij
      rw [hj2] at hi2
      subst hi2
      exact e' (hi _ _ (h1.symm.trans he))
    · rintro ⟨y, hy, h1, h2⟩; exact ⟨y, hsub.mem hy, h1, h2⟩
theorem modify_keys {es : List MapEntry} {j : Nat} {e : MapEntry} {kv : Value} (hj : es[j]? = some e) (he : e.key = kv) (v : Value) : (es.modify j fun x => { x with key := kv, val := v }).map (·.key) = es.map (·.key) := by
  apply List.ext_getElem
  · simp
  · intro i h1 h2
    simp only [List.getElem_map, List.getElem_modify]
    split
    · rename_i hij; subst hij
      have := (List.getElem?_eq_some_iff.1 hj).2
      rw [this]; exact he.symm
    · rfl
theorem GRep.modify (hi : ∀ a b, enc a = enc b → a = b) {es : List MapEntry} {f : κ → Option Value} (h : GRep enc es f) (k : κ) (v : Value) {j : Nat} {e : MapEntry} (hj : es[j]? = some e) (he : e.key = enc k) :
    GRep enc (es.modify j fun x => { x with key := enc k, val := v }) (gset f k (some v)) := by
  have hks := modify_keys hj he v
  obtain ⟨hj1, hj2⟩ := List.getElem?_eq_some_iff.1 hj
  have hpw : ∀ {l : List MapEntry}, (l.Pairwise fun x y => x.key ≠ y.key) ↔ (l.map (·.key)).Pairwise (· ≠ ·) := fun {l} => (List.pairwise_map).symm
  have hmem : ∀ x, x ∈ (es.modify j fun x => { x with key := enc k, val := v }) ↔ (∃ i, ∃ hi : i < es.length, i ≠ j ∧ es[i] = x) ∨ x = { e with key := enc k, val := v } := by
    intro x
    rw [List.mem_iff_getElem]
    constructor
    · rintro ⟨i, hi, rfl⟩
      rw [List.length_modify] at hi
      rw [List.getElem_modify]
      split
      · rename_i hij; subst hij; right; rw [hj2]
      · rename_i hij; left; exact ⟨i, hi, fun e => hij e.symm, rfl⟩
    · rintro (⟨i, hi, hne, rfl⟩ | rfl)
      · exact ⟨i, by rw [List.length_modify]; exact hi, by rw [List.getElem_modify, if_neg (Ne.symm hne)]⟩
      · exact ⟨j, by rw [List.length_modify]; exact hj1, by rw [List.getElem_modify, if_pos rfl, hj2]⟩
  refine ⟨fun x hx => ?_, hpw.2 (by rw [hks]; exact hpw.1 h.nodup), fun x u => ?_⟩
  · rcases (hmem x).1 hx with ⟨i, hi, -, rfl⟩ | rfl
    · exact h.keys _ (List.getElem_mem hi)
    · exact ⟨k, rfl⟩
  · by_cases e' : x = k
    · subst e'
      rw [gset_same]
      constructor
      · rintro ⟨⟩; exact ⟨_, (hmem _).2 (.inr rfl), rfl, rfl⟩
      · rintro ⟨y, hy, h1, rfl⟩
        rcases (hmem y).1 hy with ⟨i, hi', hne, rfl⟩ | rfl
        · rcases Nat.lt_trichotomy i j with h3 | h3 | h3
          · exact absurd (by rw [h1, hj2, he]) (List.pairwise_iff_getElem.1 h.nodup i j hi' hj1 h3)
          · exact absurd h3 hne
          · exact absurd (by rw [h1, hj2, he]) (List.pairwise_iff_getElem.1 h.nodup j i hj1 hi' h3)
        · rfl
    · rw [gset_other _ _ e', h.get]
      constructor
      · rintro ⟨y, hy, h1, h2⟩
        obtain ⟨i, hi', rfl⟩ := List.mem_iff_getElem.1 hy
        refine ⟨_, (hmem _).2 (.inl ⟨i, hi', fun hij => ?_, rfl⟩), h1, h2⟩
        subst hij
        rw [hj2] at h1
        exact e' (hi _ _ (h1.symm.trans he))
      · rintro ⟨y, hy, h1, h2⟩
        rcases (hmem y).1 hy with ⟨i, hi', hne, rfl⟩ | rfl
        · exact ⟨_, List.getElem_mem hi', h1, h2⟩
        · exact absurd (hi _ _ h1).symm e'
def gmap (enc : κ → Value) (b : Nat) (f : κ → Option Value) (n : Nat) : Assn := ex fun s : Array MapEntry × Nat => sep (fact (GRep enc s.1.toList f ∧ s.1.size = n ∧ Born s.1.toList s.2)) (blk b (.map s.1 s.2))
variable {P : Program} {W w : World} {A : Assn}
theorem Sat.gmap_open {b : Nat} {f : κ → Option Value} {n : Nat} (h : Sat W w (sep (gmap enc b f n) A)) : ∃ es clock, GRep enc es.toList f ∧ es.size = n ∧ Born es.toList clock ∧ Sat W w (sep (blk b (.map es clock)) A) := by
  rw [gmap, ex_sep, Sat.ex] at h
  obtain ⟨⟨es, clock⟩, h⟩ := h
  rw [sep_assoc] at h
  have h' := Sat.fact.1 h
  exact ⟨es, clock, h'.1.1, h'.1.2.1, h'.1.2.2, h'.2⟩
theorem Sat.gmap_mk {b : Nat} {f : κ → Option Value} {n : Nat} {es : Array MapEntry} {clock : Nat} (h : Sat W w (sep (blk b (.map es clock)) A)) (h1 : GRep enc es.toList f) (h2 : es.size = n) (h3 : Born es.toList clock) : Sat W w (sep (gmap enc b f n) A) := by
  rw [gmap, ex_sep, Sat.ex]
  refine ⟨(es, clock), ?_⟩
  rw [sep_assoc]
  exact Sat.fact.2 ⟨⟨h1, h2, h3⟩, h⟩
theorem Sat.gmap_new (enc : κ → Value) (h : Sat W w A) : Sat W (w.alloc (.map #[] 0)) (sep (gmap enc w.heap.size (fun _ => none) 0) A) :=
  (h.alloc (.map #[] 0)).gmap_mk GRep.nil rfl (Born.nil 0)
theorem Sat.gmap_ext {b : Nat} {f g : κ → Option Value} {n : Nat} (h : Sat W w (sep (gmap enc b f n) A)) (e : ∀ k, f k = g k) : Sat W w (sep (gmap enc b g n) A) := by
  obtain rfl : f = g := funext e
  exact h
/-- 'm[k]', 'v, ok := m[k]'. -/
theorem run_lookup_gmap {T K E : TypeId} {z : Value} (hT : P.underlying T = some (.map K E)) (hK : GKey P K enc) (hz : ∀ w, (zeroValue E).run P w = .ok z w)
    {b : Nat} {f : κ → Option Value} {n : Nat} (h : Sat W w (sep (gmap enc b f n) A)) (k : κ) (ok : Bool) :
    (Instr.lookup T (.map (some b)) (enc k) ok).run P w = .ok (if ok then .tuple #[(f k).getD z, .bool (f k).isSome] else (f k).getD z) w := by
  obtain ⟨es, clock, h1, h2, -, h3⟩ := h.gmap_open
  have hg := run_getObj_map (P := P) h3.blk_heap
  rcases hK.find w k es.toList h1.keys with ⟨e1, e2⟩ | ⟨j, e, e1, e2, e3⟩
  · rw [h1.isNo e2]
    cases ok <;> simp [Instr.lookup, run_underlying hT, hg, hK.check, e1, hz]
  · rw [h1.isSo (List.mem_of_getElem? e2) e3]
    cases ok <;> simp [Instr.lookup, run_underlying hT, hg, hK.check, e1]
/-- 'm[k] = v', whether the key was there or not. -/
theorem run_update_gmap {T K E : TypeId} (hT : P.underlying T = some (.map K E)) (hK : GKey P K enc) {b : Nat} {f : κ → Option Value} {n : Nat} (h : Sat W w (sep (gmap enc b f n) A)) (k : κ) (v : Value) :
    ∃ w', (Instr.mapUpdate T (.map (some b)) (enc k) v).run P w = .ok () w' ∧ ∃ n', Sat W w' (sep (gmap enc b (gset f k (some v)) n') A) := by
  obtain ⟨es, clock, h1, h2, hb, h3⟩ := h.gmap_open
  have hg := run_getObj_map (P := P) h3.blk_heap
  rcases hK.find w k es.toList h1.keys with ⟨e1, e2⟩ | ⟨j, e, e1, e2, e3⟩
  · refine ⟨_, by simp [Instr.mapUpdate, run_underlying hT, hg, hK.check, e1, run_setObj_map (P := P) h3.blk_heap]; rfl, n + 1, (h3.setObj _).gmap_mk ?_ (by simp [h2]) ?_⟩
    · simpa using h1.push hK.inj k v clock e2
    · simpa using hb.push (enc k) v
  · have hkey : ((es[j]?.map (·.key)).getD (enc k)) = enc k := by
      have : es[j]? = some e := by simpa using e2
      simp [this, e3]
    refine ⟨_, by simp [Instr.mapUpdate, run_underlying hT, hg, hK.check, e1, hkey, hK.stays, run_setObj_map (P := P) h3.blk_heap]; rfl, n, (h3.setObj _).gmap_mk ?_ (by simp [h2]) ?_⟩
    · simpa using h1.modify hK.inj k v e2 e3
    · simpa using hb.modify j (enc k) v
/-- 'delete(m, k)'. -/
theorem run_delete_gmap {T K E ty : TypeId} {u : TypeId} (hT : P.underlying T = some (.map K E)) (hK : GKey P K enc) {b : Nat} {f : κ → Option Value} {n : Nat} (h : Sat W w (sep (gmap enc b f n) A)) (k : κ) :
    ∃ w', (Builtin.delete_ #[T, u] ty #[.map (some b), enc k]).run P w = .ok (.tuple #[]) w' ∧ ∃ n', Sat W w' (sep (gmap enc b (gset f k none) n') A) := by
  obtain ⟨es, clock, h1, h2, hb, h3⟩ := h.gmap_open
  have hg := run_getObj_map (P := P) h3.blk_heap
  rcases hK.find w k es.toList h1.keys with ⟨e1, e2⟩ | ⟨j, e, e1, e2, e3⟩
  · refine ⟨_, by simp [Builtin.delete_, run_underlying hT, hg, hK.check, e1, run_setObj_map (P := P) h3.blk_heap], n, ((h3.setObj _).gmap_mk h1 h2 hb).gmap_ext fun x => ?_⟩
    by_cases hx : x = k
    · subst hx; rw [gset_same, h1.isNo e2]
    · rw [gset_other _ _ hx]
  · have hj : j < es.size := by have := (List.getElem?_eq_some_iff.1 e2).1; simpa using this
    refine ⟨_, by simp [Builtin.delete_, run_underlying hT, hg, hK.check, e1, run_setObj_map (P := P) h3.blk_heap]; rfl, n - 1, (h3.setObj _).gmap_mk ?_ (by subst h2; simp [Array.eraseIdxIfInBounds, hj]) ?_⟩
    · simpa [Array.eraseIdxIfInBounds, hj] using h1.erase hK.inj k e2 e3
    · simpa [Array.eraseIdxIfInBounds, hj] using hb.erase j
end
/-- Blocks of keys: a level and a number. -/
def bkv (x : Nat × Int) : Value := .agg #[.int .i64 (x.1 : Nat), .int .i64 x.2]
theorem bkv_inj (a b : Nat × Int) (h : bkv a = bkv b) : a = b := by
  obtain ⟨a1, a2⟩ := a
  obtain ⟨b1, b2⟩ := b
  simp only [bkv, Value.agg.injEq, Array.mk.injEq, List.cons.injEq, Value.int.injEq, true_and, and_true] at h
  rw [show a1 = b1 by omega, h.2]
end PA
