/- A range over a map with any comparable keys. Plain Lean, no program in sight. -/
import Derived.Test.YtcmjbjlliehdiaaDoorGm
namespace PA
open Go Go.RowKit
section
variable {κ : Type} {enc : κ → Value}
structure GRngOK (enc : κ → Value) (es : List MapEntry) (f : κ → Option Value) (clock since c0 : Nat) (seen : Array Nat) (left : κ → Bool) : Prop where
  rep : GRep enc es f
  born : Born es clock
  old : ∀ e ∈ es, e.born < since
  sc : since ≤ c0
  scl : since ≤ clock
  lf : ∀ e ∈ es, ∀ k, e.key = enc k → left k = !seen.contains e.born
  lk : ∀ k, left k = true → (f k).isSome = true
/-- A range over map b by the iterator r is under way: left k: key k is still to come. -/
def grng (enc : κ → Value) (b r : Nat) (f : κ → Option Value) (n : Nat) (left : κ → Bool) (cnt : Nat) : Assn := ex fun s : Array MapEntry × Nat × Nat × Array Nat × Nat =>
  sep (fact (GRngOK enc s.1.toList f s.2.1 s.2.2.1 s.2.2.2.2 s.2.2.2.1 left ∧ s.1.size = n ∧ (leftOf s.1 s.2.2.2.1).size = cnt)) (sep (blk b (.map s.1 s.2.1)) (blk r (.mapIter (some b) s.2.2.1 s.2.2.2.1 s.2.2.2.2)))
variable {P : Program} {W w : World} {A : Assn}
theorem Sat.grng_open {b r : Nat} {f : κ → Option Value} {n : Nat} {left : κ → Bool} {cnt : Nat} (h : Sat W w (sep (grng enc b r f n left cnt) A)) :
    ∃ es clock since seen c0, GRngOK enc es.toList f clock since c0 seen left ∧ es.size = n ∧ (leftOf es seen).size = cnt ∧ Sat W w (sep (blk b (.map es clock)) (sep (blk r (.mapIter (some b) since seen c0)) A)) := by
  rw [grng, ex_sep, Sat.ex] at h
  obtain ⟨⟨es, clock, since, seen, c0⟩, h⟩ := h
  rw [sep_assoc, sep_assoc] at h
  have h' := Sat.fact.1 h
  exact ⟨es, clock, since, seen, c0, h'.1.1, h'.1.2.1, h'.1.2.2, h'.2⟩
theorem Sat.grng_mk {b r : Nat} {f : κ → Option Value} {n : Nat} {left : κ → Bool} {cnt : Nat} {es : Array MapEntry} {clock since c0 : Nat} {seen : Array Nat}
    (h : Sat W w (sep (blk b (.map es clock)) (sep (blk r (.mapIter (some b) since seen c0)) A))) (h1 : GRngOK enc es.toList f clock since c0 seen left) (h2 : es.size = n) (h3 : (leftOf es seen).size = cnt) : Sat W w (sep (grng enc b r f n left cnt) A) := by
  rw [grng, ex_sep, Sat.ex]
  refine ⟨(es, clock, since, seen, c0), ?_⟩
  rw [sep_assoc, sep_assoc]
  exact Sat.fact.2 ⟨⟨h1, h2, h3⟩, h⟩
theorem Sat.grng_left {b r : Nat} {f : κ → Option Value} {n : Nat} {left : κ → Bool} {cnt : Nat} (h : Sat W w (sep (grng enc b r f n left cnt) A)) : w.rangeLeft b r = cnt := by
  obtain ⟨es, clock, since, seen, c0, -, -, h3, h4⟩ := h.grng_open
  simp only [World.rangeLeft, h4.blk_heap, h4.p1.blk_heap]
  exact h3
theorem Sat.grng_end {b r : Nat} {f : κ → Option Value} {n : Nat} {left : κ → Bool} {cnt : Nat} (h : Sat W w (sep (grng enc b r f n left cnt) A)) : Sat W w (sep (gmap enc b f n) A) := by
  obtain ⟨es, clock, since, seen, c0, h1, h2, -, h4⟩ := h.grng_open
  exact h4.p1.drop.gmap_mk h1.rep h2 h1.born
theorem GRep.mem_of_some {es : List MapEntry} {f : κ → Option Value} (h : GRep enc es f) {k : κ} (hk : (f k).isSome = true) : ∃ e ∈ es, e.key = enc k := by
  obtain ⟨v, hv⟩ := Option.isSome_iff_exists.1 hk
  obtain ⟨e, he, h1, -⟩ := (h.get k v).1 hv
  exact ⟨e, he, h1⟩
/-- 'range m'. -/
theorem run_range_gmap {T K E : TypeId} (hT : P.underlying T = some (.map K E)) {b : Nat} {f : κ → Option Value} {n : Nat} (h : Sat W w (sep (gmap enc b f n) A)) :
    ∃ w', (Instr.range T (.map (some b))).run P w = .ok (.pointer (some ⟨w.heap.size, 0, none⟩)) w' ∧ Sat W w' (sep (grng enc b w.heap.size f n (fun k => (f k).isSome) n) A) := by
  obtain ⟨es, clock, h1, h2, hb, h3⟩ := h.gmap_open
  have hg := run_getObj_map (P := P) h3.blk_heap
  refine ⟨w.alloc (.mapIter (some b) clock #[] clock), by simp [Instr.range, run_underlying hT, hg], ?_⟩
  refine ((h3.alloc (.mapIter (some b) clock #[] clock)).p1).grng_mk ⟨h1, hb, hb.lt, Nat.le_refl _, Nat.le_refl _, fun e he k hk => ?_, fun k hk => hk⟩ h2 ?_
  · rw [h1.isSo he hk]; simp
  · rw [← h2]; simp [leftOf]
/-- The step: nothing is left, or some key that was left comes out with its element. -/
theorem run_next_grng (hi : ∀ a b, enc a = enc b → a = b) {b r : Nat} {f : κ → Option Value} {n : Nat} {left : κ → Bool} {cnt : Nat} (ty : TypeId) (h : Sat W w (sep (grng enc b r f n left cnt) A)) :
    ((∀ k, left k = false) ∧ (Instr.next (.pointer (some ⟨r, 0, none⟩)) false ty).run P w = .ok (.tuple #[.bool false]) w) ∨
    ∃ k v w' cnt' left', left k = true ∧ f k = some v ∧ cnt' < cnt ∧ (Instr.next (.pointer (some ⟨r, 0, none⟩)) false ty).run P w = .ok (.tuple #[.bool true, enc k, v]) w' ∧
      (Instr.entry (.pointer (some ⟨r, 0, none⟩))).run P w' = .ok (.tuple #[enc k, v]) w' ∧ (∀ z, left' z = true ↔ left z = true ∧ z ≠ k) ∧ Sat W w' (sep (grng enc b r f n left' cnt') A) := by
  classical
  obtain ⟨es, clock, since, seen, c0, h1, h2, h3, h4⟩ := h.grng_open
  rcases run_next_at (P := P) w ty r b since c0 seen es clock h4.p1.blk_heap h4.blk_heap h1.old h1.sc with ⟨h0, hrun⟩ | ⟨e, he, w1, hw1, hrun⟩
  · refine .inl ⟨fun k => ?_, hrun⟩
    cases hk : left k with
    | false => rfl
    | true =>
      obtain ⟨e, he, hek⟩ := h1.rep.mem_of_some (h1.lk k hk)
      have := h1.lf e he k hek
      rw [hk] at this
      have hm : e ∈ (leftOf es seen).toList := by unfold leftOf; simp; exact ⟨by simpa using he, by simpa using this.symm⟩
      have h00 : (leftOf es seen).toList.length = 0 := by simpa using h0
      rw [List.eq_nil_of_length_eq_zero h00] at hm
      cases hm
  · have hmem : e ∈ es.toList ∧ seen.contains e.born = false := by
      unfold leftOf at he; simp at he; exact ⟨by simpa using he.1, by simpa using he.2⟩
    obtain ⟨k, hk⟩ := h1.rep.keys e hmem.1
    have hlk := h1.lf e hmem.1 k hk
    rw [hmem.2] at hlk
    have hw1S : Sat W w1 (sep (blk r (.mapIter (some b) since seen c0)) (sep (blk b (.map es clock)) A)) := by
      rcases hw1 with rfl | rfl
      · exact h4.p1
      · exact h4.p1.drew
    have hset : Sat W (Go.ChangeMaps.setBlock w1 r (.mapIter (some b) since (seen.push e.born) clock)) (sep (blk r (.mapIter (some b) since (seen.push e.born) clock)) (sep (blk b (.map es clock)) A)) := hw1S.setObj _
    refine .inr ⟨k, e.val, _, _, fun z => left z && !decide (z = k), by simpa using hlk, h1.rep.isSo hmem.1 hk, ?_, by rw [hk] at hrun; exact hrun, ?_, fun z => by simp, hset.p1.grng_mk ⟨h1.rep, h1.born, h1.old, h1.scl, h1.scl, ?_, ?_⟩ h2 rfl⟩
    · rw [← h3]; exact leftOf_push es seen e he
    · have := run_entry_at (P := P) _ r b since seen es clock e hset.blk_heap hset.p1.blk_heap hmem.1 h1.born.nodup
      rw [hk] at this; exact this
    · intro e2 he2 k2 hk2
      rw [h1.lf e2 he2 k2 hk2, Array.contains_push]
      by_cases hkk : k2 = k
      · subst hkk
        have : e2 = e := key_eq h1.rep.nodup he2 hmem.1 (hk2.trans hk.symm)
        subst this
        simp
      · have hb : ¬ e2.born = e.born := fun hbe => hkk (by
          have : e2 = e := born_eq h1.born.nodup he2 hmem.1 hbe
          subst this
          exact hi _ _ (hk2.symm.trans hk))
        have e1 : decide (k2 = k) = false := by simp [hkk]
        have e2 : (e2.born == e.born) = false := by simp [hb]
        rw [e1, e2]; simp
    · intro z hz
      simp at hz
      exact h1.lk z hz.1
end
end PA
