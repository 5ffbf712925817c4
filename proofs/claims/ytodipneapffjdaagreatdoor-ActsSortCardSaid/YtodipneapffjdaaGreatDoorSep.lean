/- A small separation logic over the model's worlds: assertions on owned blocks and on blocks that no longer change, carried across calls. Plain Lean, no program in sight. -/
import Derived.WalkKit
import Derived.WalkSpells
import Derived.WalkLawsBesides
import Derived.ProofKit
import Derived.Lib.Hide
namespace PA
open Go Go.RowKit

abbrev Mem := Nat → Option Obj
def Mem.le (I J : Mem) : Prop := ∀ b o, I b = some o → J b = some o
def Mem.dj (x y : Mem) : Prop := ∀ b, x b = none ∨ y b = none
def Mem.un (x y : Mem) : Mem := fun b => match x b with | some o => some o | none => y b
def Mem.no : Mem := fun _ => none
theorem Mem.le_refl (I : Mem) : Mem.le I I := fun _ _ h => h
theorem Mem.un_assoc (x y z : Mem) : Mem.un (Mem.un x y) z = Mem.un x (Mem.un y z) := by
  funext b; simp only [Mem.un]; cases x b <;> rfl
theorem Mem.un_comm (x y : Mem) (h : Mem.dj x y) : Mem.un x y = Mem.un y x := by
  funext b; simp only [Mem.un]; rcases h b with h | h <;> rw [h]
  · cases y b <;> rfl
  · cases x b <;> rfl
theorem Mem.un_no (x : Mem) : Mem.un Mem.no x = x := by funext b; simp [Mem.un, Mem.no]
theorem Mem.un_some {x y : Mem} {b : Nat} {o : Obj} (h : Mem.un x y b = some o) : x b = some o ∨ y b = some o := by
  simp only [Mem.un] at h; cases hx : x b with
  | some u => rw [hx] at h; exact .inl h
  | none => rw [hx] at h; exact .inr h
theorem Mem.un_l {x y : Mem} {b : Nat} {o : Obj} (h : x b = some o) : Mem.un x y b = some o := by simp [Mem.un, h]
theorem Mem.un_r {x y : Mem} {b : Nat} {o : Obj} (hd : Mem.dj x y) (h : y b = some o) : Mem.un x y b = some o := by
  rcases hd b with h' | h'
  · simp [Mem.un, h', h]
  · rw [h'] at h; cases h

/-- An assertion: on the blocks that no longer change (first) and on the blocks that it owns (second). -/
structure Assn where
  sat : Mem → Mem → Prop
  mono : ∀ {I J m : Mem}, Mem.le I J → sat I m → sat J m

theorem Assn.ext' {A B : Assn} (h : ∀ I m, A.sat I m ↔ B.sat I m) : A = B := by
  cases A; cases B; congr; funext I m; exact propext (h I m)

def emp : Assn := ⟨fun _ m => m = Mem.no, fun _ h => h⟩
def sep (A B : Assn) : Assn := ⟨fun I m => ∃ x y, Mem.dj x y ∧ m = Mem.un x y ∧ A.sat I x ∧ B.sat I y,
  fun hl ⟨x, y, h1, h2, h3, h4⟩ => ⟨x, y, h1, h2, A.mono hl h3, B.mono hl h4⟩⟩
def fact (p : Prop) : Assn := ⟨fun _ m => m = Mem.no ∧ p, fun _ h => h⟩
def ex {α : Sort _} (A : α → Assn) : Assn := ⟨fun I m => ∃ x, (A x).sat I m, fun hl ⟨x, h⟩ => ⟨x, (A x).mono hl h⟩⟩
def pers (p : Mem → Prop) (hp : ∀ I J, Mem.le I J → p I → p J) : Assn := ⟨fun I m => m = Mem.no ∧ p I, fun hl ⟨h1, h2⟩ => ⟨h1, hp _ _ hl h2⟩⟩
/-- Block b is owned and holds o. -/
def blk (b : Nat) (o : Obj) : Assn := ⟨fun _ m => m = fun x => if x = b then some o else none, fun _ h => h⟩
/-- Block b holds o for good. -/
def imm (b : Nat) (o : Obj) : Assn := pers (fun I => I b = some o) fun _ _ hl h => hl _ _ h

theorem sep_comm (A B : Assn) : sep A B = sep B A := Assn.ext' fun I m => by
  constructor <;> rintro ⟨x, y, h1, h2, h3, h4⟩ <;> exact ⟨y, x, fun b => (h1 b).symm, by rw [h2, Mem.un_comm _ _ h1], h4, h3⟩
theorem sep_assoc (A B C : Assn) : sep (sep A B) C = sep A (sep B C) := Assn.ext' fun I m => by
  constructor
  · rintro ⟨x, z, h1, rfl, ⟨x, y, h3, rfl, h4, h5⟩, h6⟩
    refine ⟨x, Mem.un y z, fun b => ?_, Mem.un_assoc _ _ _, h4, y, z, fun b => ?_, rfl, h5, h6⟩
    · rcases h1 b with h | h
      · simp only [Mem.un] at h; cases hx : x b with
        | some u => rw [hx] at h; cases h
        | none => exact .inl rfl
      · rcases h3 b with h' | h'
        · exact .inl h'
        · exact .inr (by simp [Mem.un, h', h])
    · rcases h1 b with h | h
      · simp only [Mem.un] at h; cases hx : x b with
        | some u => rw [hx] at h; cases h
        | none => rw [hx] at h; exact .inl h
      · exact .inr h
  · rintro ⟨x, m, h1, rfl, h4, y, z, h3, rfl, h5, h6⟩
    refine ⟨Mem.un x y, z, fun b => ?_, (Mem.un_assoc _ _ _).symm, ⟨x, y, fun b => ?_, rfl, h4, h5⟩, h6⟩
    · rcases h1 b with h | h
      · rcases h3 b with h' | h'
        · exact .inl (by simp [Mem.un, h, h'])
        · exact .inr h'
      · simp only [Mem.un] at h; cases hy : y b with
        | some u => rw [hy] at h; cases h
        | none => rw [hy] at h; exact .inr h
    · rcases h1 b with h | h
      · exact .inl h
      · simp only [Mem.un] at h; cases hy : y b with
        | some u => rw [hy] at h; cases h
        | none => exact .inr rfl
theorem sep_lcomm (A B C : Assn) : sep A (sep B C) = sep B (sep A C) := by rw [← sep_assoc, sep_comm A B, sep_assoc]
theorem emp_sep (A : Assn) : sep emp A = A := Assn.ext' fun I m => by
  constructor
  · rintro ⟨x, y, h1, rfl, rfl, h4⟩; rw [Mem.un_no]; exact h4
  · intro h; exact ⟨Mem.no, m, fun _ => .inl rfl, (Mem.un_no _).symm, rfl, h⟩
theorem ex_sep {α : Sort _} (A : α → Assn) (B : Assn) : sep (ex A) B = ex fun x => sep (A x) B := Assn.ext' fun I m => by
  constructor
  · rintro ⟨x, y, h1, h2, ⟨u, h3⟩, h4⟩; exact ⟨u, x, y, h1, h2, h3, h4⟩
  · rintro ⟨u, x, y, h1, h2, h3, h4⟩; exact ⟨x, y, h1, h2, ⟨u, h3⟩, h4⟩
/-- What needs no block of its own can be had twice. -/
theorem pers_dup (p : Mem → Prop) (hp : ∀ I J, Mem.le I J → p I → p J) (A : Assn) : sep (pers p hp) A = sep (pers p hp) (sep (pers p hp) A) := Assn.ext' fun I m => by
  constructor
  · rintro ⟨x, y, h1, rfl, ⟨rfl, h3⟩, h4⟩
    exact ⟨Mem.no, y, h1, rfl, ⟨rfl, h3⟩, Mem.no, y, h1, (Mem.un_no _).symm, ⟨rfl, h3⟩, h4⟩
  · rintro ⟨x, m, h1, rfl, ⟨rfl, h3⟩, x, y, h5, rfl, ⟨rfl, _⟩, h4⟩
    exact ⟨Mem.no, y, fun _ => .inl rfl, by rw [Mem.un_no], ⟨rfl, h3⟩, h4⟩

/-- World w, grown out of W (whose blocks stand), meets A. -/
structure Sat (W w : World) (A : Assn) : Prop where
  os : w.os = W.os
  tape : w.tape = W.tape
  output : w.output = W.output
  has : ∃ I m : Mem, (∀ b o, W.heap[b]? = some o → I b = some o) ∧ (∀ b o, I b = some o → w.heap[b]? = some o) ∧ (∀ b o, m b = some o → w.heap[b]? = some o ∧ I b = none) ∧ A.sat I m

theorem Sat.wk {W w : World} {A B : Assn} (h : Sat W w A) (hi : ∀ I m, A.sat I m → B.sat I m) : Sat W w B :=
  let ⟨h1, h2, h3, I, m, h4, h5, h6, h7⟩ := h
  ⟨h1, h2, h3, I, m, h4, h5, h6, hi _ _ h7⟩
theorem Sat.start (W : World) : Sat W W emp :=
  ⟨rfl, rfl, rfl, fun b => W.heap[b]?, Mem.no, fun _ _ h => h, fun _ _ h => h, fun _ _ h => (by simp [Mem.no] at h), rfl⟩
theorem Sat.drew {W w : World} {A : Assn} (h : Sat W w A) : Sat W w.drew A := let ⟨h1, h2, h3, h4⟩ := h; ⟨h1, h2, h3, h4⟩
theorem Sat.alike {W w w' : World} {A : Assn} (h : Sat W w A) (h1 : w'.heap = w.heap) (h2 : w'.os = w.os) (h3 : w'.tape = w.tape) (h4 : w'.output = w.output) : Sat W w' A :=
  ⟨h2.trans h.os, h3.trans h.tape, h4.trans h.output, by rw [h1]; exact h.has⟩
theorem Sat.fact {W w : World} {p : Prop} {A : Assn} : Sat W w (sep (fact p) A) ↔ p ∧ Sat W w A := by
  constructor
  · rintro ⟨h1, h2, h3, I, m, h4, h5, h6, x, y, h7, rfl, ⟨rfl, hp⟩, h9⟩
    exact ⟨hp, h1, h2, h3, I, y, h4, h5, by simpa only [Mem.un_no] using h6, h9⟩
  · rintro ⟨hp, h1, h2, h3, I, m, h4, h5, h6, h7⟩
    exact ⟨h1, h2, h3, I, m, h4, h5, h6, Mem.no, m, fun _ => .inl rfl, (Mem.un_no _).symm, ⟨rfl, hp⟩, h7⟩
theorem Sat.ex {W w : World} {α : Sort _} {A : α → Assn} : Sat W w (ex A) ↔ ∃ x, Sat W w (A x) := by
  constructor
  · rintro ⟨h1, h2, h3, I, m, h4, h5, h6, x, h7⟩; exact ⟨x, h1, h2, h3, I, m, h4, h5, h6, h7⟩
  · rintro ⟨x, h1, h2, h3, I, m, h4, h5, h6, h7⟩; exact ⟨h1, h2, h3, I, m, h4, h5, h6, x, h7⟩
theorem Sat.tail {W w : World} {p : Mem → Prop} {hp : ∀ I J, Mem.le I J → p I → p J} {A : Assn} (h : Sat W w (sep (pers p hp) A)) : Sat W w A :=
  h.wk fun I m ⟨x, y, _, e, ⟨e1, _⟩, h4⟩ => by rw [e, e1, Mem.un_no]; exact h4
theorem Sat.dup {W w : World} {p : Mem → Prop} {hp : ∀ I J, Mem.le I J → p I → p J} {A : Assn} (h : Sat W w (sep (pers p hp) A)) : Sat W w (sep (pers p hp) (sep (pers p hp) A)) := by
  rw [← pers_dup]; exact h
theorem Sat.pers_heap {W w : World} {p : Mem → Prop} {hp : ∀ I J, Mem.le I J → p I → p J} {A : Assn} (h : Sat W w (sep (pers p hp) A)) : p fun b => w.heap[b]? := by
  obtain ⟨_, _, _, I, m, h4, h5, h6, x, y, h7, rfl, ⟨rfl, hq⟩, h9⟩ := h
  exact hp _ _ h5 hq
theorem Sat.below {W w : World} {A : Assn} (h : Sat W w A) : Below W.heap.size W w := by
  obtain ⟨h1, h2, h3, I, m, h4, h5, _, _⟩ := h
  have hb : ∀ b, b < W.heap.size → w.heap[b]? = W.heap[b]? := fun b hb => by
    rw [Array.getElem?_eq_getElem hb]; exact h5 _ _ (h4 _ _ (Array.getElem?_eq_getElem hb))
  refine ⟨h1, h2, h3, ?_, hb⟩
  rcases Nat.eq_zero_or_pos W.heap.size with h0 | h0
  · omega
  · have := hb (W.heap.size - 1) (by omega)
    rw [Array.getElem?_eq_getElem (show W.heap.size - 1 < W.heap.size by omega)] at this
    have := (Array.getElem?_eq_some_iff.1 this).1
    omega

theorem Sat.blk_heap {W w : World} {b : Nat} {o : Obj} {A : Assn} (h : Sat W w (sep (blk b o) A)) : w.heap[b]? = some o := by
  obtain ⟨_, _, _, I, m, h4, h5, h6, x, y, h7, rfl, rfl, h9⟩ := h
  exact (h6 b o (Mem.un_l (by simp))).1
theorem Sat.lt {W w : World} {b : Nat} {o : Obj} {A : Assn} (h : Sat W w (sep (blk b o) A)) : b < w.heap.size := (Array.getElem?_eq_some_iff.1 h.blk_heap).1
/-- An owned block is given up: it no longer changes. -/
theorem Sat.settle {W w : World} {b : Nat} {o : Obj} {A : Assn} (h : Sat W w (sep (blk b o) A)) : Sat W w (sep (imm b o) A) := by
  obtain ⟨h1, h2, h3, I, m, h4, h5, h6, x, y, h7, rfl, rfl, h9⟩ := h
  have hb := h6 b o (Mem.un_l (by simp))
  have hle : Mem.le I (fun x => if x = b then some o else I x) := fun c u hc => by
    by_cases e : c = b
    · subst e; rw [hb.2] at hc; cases hc
    · simpa [e] using hc
  refine ⟨h1, h2, h3, _, y, fun c u hc => hle _ _ (h4 _ _ hc), ?_, ?_, Mem.no, y, fun _ => .inl rfl, (Mem.un_no _).symm, ⟨rfl, ?_⟩, A.mono hle h9⟩
  · intro c u hc
    by_cases e : c = b
    · subst e; simp at hc; subst hc; exact hb.1
    · simp [e] at hc; exact h5 _ _ hc
  · intro c u hc
    have hcu := h6 c u (Mem.un_r h7 hc)
    refine ⟨hcu.1, ?_⟩
    by_cases e : c = b
    · subst e; rcases h7 c with h | h
      · simp at h
      · rw [h] at hc; cases hc
    · simp [e, hcu.2]
  · simp
/-- The one block g has been changed. -/
theorem Sat.change {W w w' : World} {g : Nat} {o o' : Obj} {A : Assn} (h : Sat W w (sep (blk g o) A)) (e1 : w'.os = w.os) (e2 : w'.tape = w.tape) (e3 : w'.output = w.output)
    (hg : w'.heap[g]? = some o') (hk : ∀ k, k ≠ g → k < w.heap.size → w'.heap[k]? = w.heap[k]?) : Sat W w' (sep (blk g o') A) := by
  obtain ⟨h1, h2, h3, I, m, h4, h5, h6, x, y, h7, rfl, rfl, h9⟩ := h
  have hb := h6 g o (Mem.un_l (by simp))
  have kept : ∀ k u, k ≠ g → w.heap[k]? = some u → w'.heap[k]? = some u := fun k u hne hu => (hk k hne (Array.getElem?_eq_some_iff.1 hu).1).trans hu
  refine ⟨e1.trans h1, e2.trans h2, e3.trans h3, I, _, h4, ?_, ?_, fun x => if x = g then some o' else none, y, ?_, rfl, rfl, h9⟩
  · intro c u hc
    refine kept c u (fun e => ?_) (h5 _ _ hc)
    subst e; rw [hb.2] at hc; cases hc
  · intro c u hc
    rcases Mem.un_some hc with hc' | hc'
    · by_cases e : c = g
      · subst e; simp at hc'; subst hc'; exact ⟨hg, hb.2⟩
      · simp [e] at hc'
    · have hcu := h6 c u (Mem.un_r h7 hc')
      refine ⟨kept c u (fun e => ?_) hcu.1, hcu.2⟩
      subst e; rcases h7 c with h | h
      · simp at h
      · rw [h] at hc'; cases hc'
  · intro c
    rcases h7 c with h | h
    · by_cases e : c = g
      · simp [e] at h
      · exact .inl (by simp [e])
    · exact .inr h
/-- New blocks beside what was there. -/
theorem Sat.grow {W w w' : World} {g : Nat} {o : Obj} {A : Assn} (h : Sat W w A) (e1 : w'.os = w.os) (e2 : w'.tape = w.tape) (e3 : w'.output = w.output)
    (hg : w'.heap[g]? = some o) (hnew : w.heap.size ≤ g) (hk : ∀ k, k < w.heap.size → w'.heap[k]? = w.heap[k]?) : Sat W w' (sep (blk g o) A) := by
  obtain ⟨h1, h2, h3, I, m, h4, h5, h6, h9⟩ := h
  have kept : ∀ k u, w.heap[k]? = some u → w'.heap[k]? = some u := fun k u hu => (hk k (Array.getElem?_eq_some_iff.1 hu).1).trans hu
  have old : ∀ k u, w.heap[k]? = some u → k ≠ g := fun k u hu e => by have := (Array.getElem?_eq_some_iff.1 hu).1; omega
  refine ⟨e1.trans h1, e2.trans h2, e3.trans h3, I, _, h4, fun c u hc => kept _ _ (h5 _ _ hc), ?_, fun x => if x = g then some o else none, m, ?_, rfl, rfl, h9⟩
  · intro c u hc
    rcases Mem.un_some hc with hc | hc
    · by_cases e : c = g
      · subst e; simp at hc; subst hc
        refine ⟨hg, ?_⟩
        cases hI : I c with
        | none => rfl
        | some v => exact absurd rfl (old _ _ (h5 _ _ hI))
      · simp [e] at hc
    · exact ⟨kept _ _ (h6 _ _ hc).1, (h6 _ _ hc).2⟩
  · intro c
    by_cases e : c = g
    · subst e
      cases hm : m c with
      | none => exact .inr rfl
      | some v => exact absurd rfl (old _ _ (h6 _ _ hm).1)
    · exact .inl (by simp [e])
theorem Sat.alloc {W w : World} {A : Assn} (h : Sat W w A) (o : Obj) : Sat W (w.alloc o) (sep (blk w.heap.size o) A) :=
  h.grow rfl rfl rfl (heap_alloc_new w o) (Nat.le_refl _) (fun k hk => by show (w.heap.push o)[k]? = w.heap[k]?; rw [Array.getElem?_push, if_neg (Nat.ne_of_lt hk)])
/-- New blocks that nobody will speak of again. -/
theorem Sat.forget {W w : World} {b : Nat} {o : Obj} {A : Assn} (h : Sat W w (sep (blk b o) A)) : Sat W w A := h.settle.tail
theorem Sat.alloc0 {W w : World} {A : Assn} (h : Sat W w A) (o : Obj) : Sat W (w.alloc o) A := (h.alloc o).forget
theorem Sat.setCell {W w : World} {g : Nat} {cs : Array Value} {t : TypeId} {A : Assn} (h : Sat W w (sep (blk g (.cells cs t (0, 0))) A)) (i : Nat) (v : Value) :
    Sat W (w.setCell ⟨g, i, none⟩ v) (sep (blk g (.cells (cs.setIfInBounds i v) t (0, 0))) A) :=
  h.change rfl rfl rfl (heap_setCell_same w g i cs t v h.blk_heap) fun k hk _ => heap_setCell_other w _ k v hk
theorem Sat.cell {W w : World} {g : Nat} {cs : Array Value} {t : TypeId} {f : Nat × Nat} {A : Assn} (h : Sat W w (sep (blk g (.cells cs t f)) A)) (i : Nat) : w.cell? ⟨g, i, none⟩ = cs[i]? :=
  cell_of_row w g i cs t f h.blk_heap
theorem Sat.unfrozen {W w : World} {g : Nat} {cs : Array Value} {t : TypeId} {A : Assn} (h : Sat W w (sep (blk g (.cells cs t (0, 0))) A)) (i : Nat) : w.frozen? ⟨g, i, none⟩ = false :=
  frozen_of_row w g i cs t h.blk_heap
theorem Sat.drop {W w : World} {X A : Assn} (h : Sat W w (sep X A)) : Sat W w A := by
  obtain ⟨h1, h2, h3, I, m, h4, h5, h6, x, y, h7, rfl, _, h9⟩ := h
  exact ⟨h1, h2, h3, I, y, h4, h5, fun b o hb => h6 b o (Mem.un_r h7 hb), h9⟩
theorem Sat.ne_blk {W w : World} {b c : Nat} {o u : Obj} {A : Assn} (h : Sat W w (sep (blk b o) (sep (blk c u) A))) : b ≠ c := by
  obtain ⟨_, _, _, I, m, h4, h5, h6, x, y, h7, rfl, rfl, x', y', h8, rfl, rfl, _⟩ := h
  intro e
  subst e
  rcases h7 b with h | h
  · simp at h
  · simp [Mem.un] at h
/-! bringing the k-th part to the front (p), and back (q) -/
section
variable {W w : World} {A B C D E F G H J K L M N O : Assn}
theorem Sat.p1 (h : Sat W w (sep A (sep B C))) : Sat W w (sep B (sep A C)) := by rw [sep_lcomm]; exact h
theorem Sat.q1 (h : Sat W w (sep B (sep A C))) : Sat W w (sep A (sep B C)) := by rw [sep_lcomm]; exact h
theorem Sat.p2 (h : Sat W w (sep A (sep B (sep C D)))) : Sat W w (sep C (sep A (sep B D))) := by simpa only [sep_comm, sep_lcomm, sep_assoc] using h
theorem Sat.q2 (h : Sat W w (sep C (sep A (sep B D)))) : Sat W w (sep A (sep B (sep C D))) := by simpa only [sep_comm, sep_lcomm, sep_assoc] using h
theorem Sat.p3 (h : Sat W w (sep A (sep B (sep C (sep D E))))) : Sat W w (sep D (sep A (sep B (sep C E)))) := by simpa only [sep_comm, sep_lcomm, sep_assoc] using h
theorem Sat.q3 (h : Sat W w (sep D (sep A (sep B (sep C E))))) : Sat W w (sep A (sep B (sep C (sep D E)))) := by simpa only [sep_comm, sep_lcomm, sep_assoc] using h
theorem Sat.p4 (h : Sat W w (sep A (sep B (sep C (sep D (sep E F)))))) : Sat W w (sep E (sep A (sep B (sep C (sep D F))))) := by simpa only [sep_comm, sep_lcomm, sep_assoc] using h
theorem Sat.q4 (h : Sat W w (sep E (sep A (sep B (sep C (sep D F)))))) : Sat W w (sep A (sep B (sep C (sep D (sep E F))))) := by simpa only [sep_comm, sep_lcomm, sep_assoc] using h
theorem Sat.p5 (h : Sat W w (sep A (sep B (sep C (sep D (sep E (sep F G))))))) : Sat W w (sep F (sep A (sep B (sep C (sep D (sep E G)))))) := by simpa only [sep_comm, sep_lcomm, sep_assoc] using h
theorem Sat.q5 (h : Sat W w (sep F (sep A (sep B (sep C (sep D (sep E G))))))) : Sat W w (sep A (sep B (sep C (sep D (sep E (sep F G)))))) := by simpa only [sep_comm, sep_lcomm, sep_assoc] using h
theorem Sat.p6 (h : Sat W w (sep A (sep B (sep C (sep D (sep E (sep F (sep G H)))))))) : Sat W w (sep G (sep A (sep B (sep C (sep D (sep E (sep F H))))))) := by simpa only [sep_comm, sep_lcomm, sep_assoc] using h
theorem Sat.q6 (h : Sat W w (sep G (sep A (sep B (sep C (sep D (sep E (sep F H)))))))) : Sat W w (sep A (sep B (sep C (sep D (sep E (sep F (sep G H))))))) := by simpa only [sep_comm, sep_lcomm, sep_assoc] using h
theorem Sat.q7 (h : Sat W w (sep H (sep A (sep B (sep C (sep D (sep E (sep F (sep G J))))))))) : Sat W w (sep A (sep B (sep C (sep D (sep E (sep F (sep G (sep H J)))))))) := by simpa only [sep_comm, sep_lcomm, sep_assoc] using h
theorem Sat.q8 (h : Sat W w (sep J (sep A (sep B (sep C (sep D (sep E (sep F (sep G (sep H K)))))))))) : Sat W w (sep A (sep B (sep C (sep D (sep E (sep F (sep G (sep H (sep J K))))))))) := by simpa only [sep_comm, sep_lcomm, sep_assoc] using h
end
end PA
