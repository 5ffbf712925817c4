/- The reference's Sort of acts: plain, and the region that puts an act into a row. -/
import Derived.Test.YtodipneapffjdaaGreatDoorGActsSortSYj
import Derived.Test.YtodipneapffjdaaGreatDoorGActsSortSGf
import Derived.Test.YtodipneapffjdaaGreatDoorGActsSort29
namespace PA
open Go Go.RowKit
section
variable {α : Type} (c : α → α → Int)
/-- Where an element goes: behind all that are not greater, seen from place k downwards. -/
def posP (x : α) (l : List α) : Nat → Nat
  | 0 => 0
  | k + 1 => match l[k]? with
    | some y => if c x y < 0 then posP x l k else k + 1
    | none => k + 1
theorem posP_le (x : α) (l : List α) : ∀ k, posP c x l k ≤ k
  | 0 => Nat.le_refl _
  | k + 1 => by
    unfold posP
    split
    · split
      · have := posP_le x l k; omega
      · exact Nat.le_refl _
    · exact Nat.le_refl _
def insP (x : α) (l : List α) : List α := l.take (posP c x l l.length) ++ x :: l.drop (posP c x l l.length)
def sortTo (l : List α) (i : Nat) : List α := (l.take i).foldl (fun o x => insP c x o) []
def sortP (l : List α) : List α := sortTo c l l.length
theorem sortTo_succ {l : List α} {i : Nat} {x : α} (h : l[i]? = some x) : sortTo c l (i + 1) = insP c x (sortTo c l i) := by
  unfold sortTo
  rw [List.take_add_one, h, List.foldl_append]; rfl
theorem insP_perm (x : α) (l : List α) : (insP c x l).Perm (x :: l) := by
  unfold insP
  have h := List.perm_middle (a := x) (l₁ := l.take (posP c x l l.length)) (l₂ := l.drop (posP c x l l.length))
  rwa [List.take_append_drop] at h
theorem sortTo_perm (l : List α) : ∀ i, i ≤ l.length → (sortTo c l i).Perm (l.take i)
  | 0, _ => by simp [sortTo]
  | i + 1, hi => by
    have hx : l[i]? = some l[i] := List.getElem?_eq_getElem (by omega)
    rw [sortTo_succ c hx, List.take_add_one, hx]
    refine (insP_perm c _ _).trans ?_
    refine ((sortTo_perm l i (by omega)).cons _).trans ?_
    exact (List.perm_append_singleton _ _).symm
theorem sortP_perm (l : List α) : (sortP c l).Perm l := by
  have := sortTo_perm c l l.length (Nat.le_refl _)
  rwa [List.take_length] at this
end
theorem acs_take (xs : List Ac) (k : Nat) : acs xs = acs (xs.take k) ++ acs (xs.drop k) := by rw [← acs_append, List.take_append_drop]
theorem acs_pre {xs : List Ac} {k j : Nat} {u : Value} (h : (acs (xs.take k))[j]? = some u) : (acs xs)[j]? = some u := by
  rw [acs_take xs k, List.getElem?_append_left (List.getElem?_eq_some_iff.1 h).1]; exact h
theorem acs_suf {xs : List Ac} {k j : Nat} {u : Value} (hk : k ≤ xs.length) (h : (acs (xs.drop k))[j]? = some u) : (acs xs)[k * 19 + j]? = some u := by
  rw [acs_take xs k, List.getElem?_append_right (by rw [acs_len, List.length_take]; omega), acs_len, List.length_take, Nat.min_eq_left hk, Nat.add_sub_cancel_left]; exact h
/-- What the region that puts an act into a row holds. -/
def insD : Nat → List Nat := fun x => if x = 10 then [4, 9] else []
def ins4 (E k : Nat) (pre : List Value) (f : Nat → Option Value) : Assn := match f 4 with | some v => ex fun p : Option Addr × Nat => sep (fact (v = .slice p.1 k p.2)) (osl E 19 p.1 k p.2 pre) | none => emp
def ins9 (E : Nat) (new : List Value) (f : Nat → Option Value) : Assn := match f 9 with | some v => ex fun g : Nat => sep (fact (v = .slice (some ⟨g, 0, none⟩) 1 1)) (blk g (.cells new.toArray E (0, 0))) | none => emp
def insT (E k : Nat) (pre new : List Value) (X : Assn) (f : Nat → Option Value) : Assn :=
  match f 10 with
  | some v => ex fun p : Option Addr × Nat => sep (fact (v = .slice p.1 (k + 1) p.2)) (sep (osl E 19 p.1 (k + 1) p.2 (pre ++ new)) X)
  | none => sep (ins4 E k pre f) (sep (ins9 E new f) X)
theorem insT_none {E k : Nat} {pre new : List Value} {X : Assn} {f : Nat → Option Value} (h : f 10 = none) : insT E k pre new X f = sep (ins4 E k pre f) (sep (ins9 E new f) X) := by unfold insT; rw [h]
theorem ins4_none {E k : Nat} {pre : List Value} {f : Nat → Option Value} (h : f 4 = none) : ins4 E k pre f = emp := by unfold ins4; rw [h]
theorem ins9_none {E : Nat} {new : List Value} {f : Nat → Option Value} (h : f 9 = none) : ins9 E new f = emp := by unfold ins9; rw [h]
theorem ins4_set {E k : Nat} {pre : List Value} {f : Nat → Option Value} {v : Value} {y : Nat} (h : y ≠ 4) : ins4 E k pre (setF f y v) = ins4 E k pre f := by unfold ins4; rw [setF_ne (Ne.symm h)]
theorem ins9_set {E : Nat} {new : List Value} {f : Nat → Option Value} {v : Value} {y : Nat} (h : y ≠ 9) : ins9 E new (setF f y v) = ins9 E new f := by unfold ins9; rw [setF_ne (Ne.symm h)]
theorem ins4_some {W w : World} {E k : Nat} {pre : List Value} {f : Nat → Option Value} {v : Value} {R : Assn} (h : f 4 = some v) : Sat W w (sep (ins4 E k pre f) R) ↔ ∃ (a : Option Addr) (c : Nat), v = .slice a k c ∧ Sat W w (sep (osl E 19 a k c pre) R) := by
  unfold ins4; rw [h]; simp only; rw [ex_sep, Sat.ex]
  constructor
  · rintro ⟨⟨a, c⟩, h⟩; rw [sep_assoc] at h; exact ⟨a, c, Sat.fact.1 h⟩
  · rintro ⟨a, c, h⟩; exact ⟨(a, c), by rw [sep_assoc]; exact Sat.fact.2 h⟩
theorem ins9_some {W w : World} {E : Nat} {new : List Value} {f : Nat → Option Value} {v : Value} {R : Assn} (h : f 9 = some v) : Sat W w (sep (ins9 E new f) R) ↔ ∃ g, v = .slice (some ⟨g, 0, none⟩) 1 1 ∧ Sat W w (sep (blk g (.cells new.toArray E (0, 0))) R) := by
  unfold ins9; rw [h]; simp only; rw [ex_sep, Sat.ex]
  constructor
  · rintro ⟨g, h⟩; rw [sep_assoc] at h; exact ⟨g, Sat.fact.1 h⟩
  · rintro ⟨g, h⟩; exact ⟨g, by rw [sep_assoc]; exact Sat.fact.2 h⟩
theorem insT_some {W w : World} {E k : Nat} {pre new : List Value} {X : Assn} {f : Nat → Option Value} {v : Value} (h : f 10 = some v) : Sat W w (insT E k pre new X f) ↔ ∃ (a : Option Addr) (c : Nat), v = .slice a (k + 1) c ∧ Sat W w (sep (osl E 19 a (k + 1) c (pre ++ new)) X) := by
  unfold insT; rw [h]; simp only; rw [Sat.ex]
  constructor
  · rintro ⟨⟨a, c⟩, h⟩; exact ⟨a, c, Sat.fact.1 h⟩
  · rintro ⟨a, c, h⟩; exact ⟨(a, c), Sat.fact.2 h⟩
/-- What stays, stands in each of its states. -/
theorem insT_X {W w : World} {E k : Nat} {pre new : List Value} {X : Assn} {f : Nat → Option Value} (h : Sat W w (insT E k pre new X f)) : Sat W w X := by
  cases h10 : f 10 with
  | some v =>
    obtain ⟨a, c, -, h1⟩ := (insT_some h10).1 h
    exact h1.forget_osl
  | none =>
    rw [insT_none h10] at h
    have h2 : Sat W w (sep (ins9 E new f) X) := by
      cases h4 : f 4 with
      | none => rw [ins4_none h4, emp_sep] at h; exact h
      | some v => obtain ⟨a, c, -, h1⟩ := (ins4_some h4).1 h; exact h1.forget_osl
    cases h9 : f 9 with
    | none => rw [ins9_none h9, emp_sep] at h2; exact h2
    | some v => obtain ⟨g, -, h1⟩ := (ins9_some h9).1 h2; exact h1.forget
end PA
namespace Go.Proofs.YtodipneapffjdaaGreatDoor
open Go.RowKit PA
/-- The order of acts with what they say. -/
def cP (p q : Ac × Pa) : Int := cmpA p.2 q.2
def slA (x : Value) (lo hi mx : Option Value) : Sem Value := Instr.slice 23 x lo hi mx
theorem slice_act (x : Value) (lo hi mx : Option Value) : Instr.slice 23 x lo hi mx = slA x lo hi mx := rfl
theorem slice_preA (a : Option Addr) (n c j : Nat) (hj : j ≤ c) (w : World) : (slA (.slice a n c) none (some (.int .i64 (j : Int))) none).run Tryz.prog w = .ok (.slice a j c) w := by
  have hu := Tryz.underlying23
  unfold slA
  cases a with
  | none => simp [Instr.slice, Instr.sliceBounds, Instr.sliceBound, go_sem]; exact fun h => absurd h (by omega)
  | some x => simp [Instr.slice, Instr.sliceBounds, Instr.sliceBound, go_sem, Addr.add]; exact fun h => absurd h (by omega)
theorem slice_sufA (a : Option Addr) (n c j : Nat) (hj : j ≤ n) : ∃ a', (∀ w, (slA (.slice a n c) (some (.int .i64 (j : Int))) none none).run Tryz.prog w = .ok (.slice a' (n - j) (c - j)) w) ∧ (c ≠ j → a' = a.map (·.add (j * 19))) := by
  have hu := Tryz.underlying23
  unfold slA
  refine ⟨if c = j then a else a.map (·.add (j * kA)), fun w => ?_, fun h => by rw [if_neg h]; rfl⟩
  simp [Instr.slice, Instr.sliceBounds, Instr.sliceBound, go_sem]
  rw [if_pos hj]; rfl
end Go.Proofs.YtodipneapffjdaaGreatDoor
