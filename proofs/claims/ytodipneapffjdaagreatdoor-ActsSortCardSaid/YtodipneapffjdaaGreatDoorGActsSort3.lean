/- What values read as (bytes, lists of bytes, structs), maps keyed by integers. Plain Lean, no program in sight. -/
import Derived.Test.YtodipneapffjdaaGreatDoorReg
import Derived.Lib.Varint
import Derived.Lib.Zigzag
import Derived.Lib.EndianBits
import Derived.Laws.Bits64
import Derived.WalkKit
import Derived.RangeFuncNested
import Derived.RangeFuncBound
import Derived.RangeFuncCalls
import Derived.RangeFuncLeaves
import Derived.Shelf.Abstract
import Derived.Shelf.RegionOpen
import Derived.OwnWalkIn
import Derived.TacticsInMore
import Derived.LoopNIn
import Derived.LoopIn
import Derived.Test.YtodipneapffjdaaGreatDoorRows
import Derived.RangeFuncBox
import Derived.Maps.AppendAt
import Derived.Lib.ConvBytes
import Derived.LoopTactic
import Derived.Handy
namespace PA
open Go Go.RowKit

def Swf (a : Option Addr) (n c : Nat) : Prop := n ≤ c ∧ c ≤ maxLen ∧ (a = none → c = 0)

/-- How the cells of one element read as a datum, the blocks being as they stay. -/
structure Rep (α : Type) where
  rel : Mem → List Value → α → Prop
  mono : ∀ {I J cs x}, Mem.le I J → rel I cs x → rel J cs x
def All2 {α β : Type} (p : α → β → Prop) : List α → List β → Prop
  | [], [] => True
  | a :: l, b :: m => p a b ∧ All2 p l m
  | _, _ => False
theorem All2.wk {α β : Type} {p q : α → β → Prop} (h : ∀ a b, p a b → q a b) : ∀ {l : List α} {m : List β}, All2 p l m → All2 q l m
  | [], [], _ => trivial
  | _ :: _, _ :: _, hh => ⟨h _ _ hh.1, All2.wk h hh.2⟩
  | [], _ :: _, hh => hh.elim
  | _ :: _, [], hh => hh.elim
theorem All2.length {α β : Type} {p : α → β → Prop} : ∀ {l : List α} {m : List β}, All2 p l m → l.length = m.length
  | [], [], _ => rfl
  | _ :: l, _ :: m, hh => by simp [All2.length hh.2]
  | [], _ :: _, hh => hh.elim
  | _ :: _, [], hh => hh.elim
theorem All2.append {α β : Type} {p : α → β → Prop} : ∀ {l l' : List α} {m m' : List β}, All2 p l m → All2 p l' m' → All2 p (l ++ l') (m ++ m')
  | [], _, [], _, _, h => h
  | _ :: _, _, _ :: _, _, hh, h => ⟨hh.1, All2.append hh.2 h⟩
  | [], _, _ :: _, _, hh, _ => hh.elim
  | _ :: _, _, [], _, hh, _ => hh.elim
theorem All2.drop {α β : Type} {p : α → β → Prop} : ∀ {l : List α} {m : List β} (k : Nat), All2 p l m → All2 p (l.drop k) (m.drop k)
  | l, m, 0, h => by simpa using h
  | [], [], _ + 1, h => h
  | _ :: _, _ :: _, k + 1, h => by simpa using All2.drop k h.2
  | [], _ :: _, _ + 1, hh => hh.elim
  | _ :: _, [], _ + 1, hh => hh.elim
theorem All2.take {α β : Type} {p : α → β → Prop} : ∀ {l : List α} {m : List β} (k : Nat), All2 p l m → All2 p (l.take k) (m.take k)
  | l, m, 0, h => by simp [All2]
  | [], [], _ + 1, h => by simp [All2]
  | _ :: _, _ :: _, k + 1, h => by simp only [List.take_succ_cons]; exact ⟨h.1, All2.take k h.2⟩
  | [], _ :: _, _ + 1, hh => hh.elim
  | _ :: _, [], _ + 1, hh => hh.elim
theorem All2.get {α β : Type} {p : α → β → Prop} : ∀ {l : List α} {m : List β}, All2 p l m → ∀ (i : Nat) (hl : i < l.length) (hm : i < m.length), p l[i] m[i]
  | _ :: _, _ :: _, h, 0, _, _ => h.1
  | _ :: _, _ :: _, h, i + 1, hl, hm => All2.get h.2 i (by simpa using hl) (by simpa using hm)

section
variable {α : Type}
def Rep.is (R : Rep α) (cs : List Value) (x : α) : Assn := pers (fun I => R.rel I cs x) fun _ _ hl h => R.mono hl h
/-- A list of elements of k cells each. -/
def Rep.rows (R : Rep α) (k : Nat) : Rep (List α) where
  rel I cs xs := ∃ css : List (List Value), cs = css.flatten ∧ All2 (fun c x => R.rel I c x ∧ c.length = k) css xs
  mono hl := fun ⟨css, h1, h2⟩ => ⟨css, h1, h2.wk fun _ _ h => ⟨R.mono hl h.1, h.2⟩⟩
/-- A slice whose elements no longer change. -/
def Rep.slice (R : Rep α) (k : Nat) : Rep (List α) where
  rel I cs xs := ∃ a c cells, cs = [.slice a xs.length c] ∧ Swf a xs.length c ∧ cellsAt a cells I ∧ (R.rows k).rel I cells xs
  mono hl := fun ⟨a, c, cells, h1, h2, h3, h4⟩ => ⟨a, c, cells, h1, h2, (by
    rcases h3 with h | ⟨b, o, cs, t, f, e1, e2, e3⟩
    · exact .inl h
    · exact .inr ⟨b, o, cs, t, f, e1, hl _ _ e2, e3⟩), (R.rows k).mono hl h4⟩
end
def rByte : Rep UInt8 := ⟨fun _ cs b => cs = [.int .u8 b.toNat], fun _ h => h⟩
def rInt : Rep Int := ⟨fun _ cs n => cs = [.int .i64 n], fun _ h => h⟩
def rBytes : Rep (List UInt8) := rByte.slice 1
def bv (b : UInt8) : Value := .int .u8 b.toNat
def iv (n : Int) : Value := .int .i64 n

theorem flatten1 : ∀ (l : List Value), (l.map fun v => [v]).flatten = l
  | [] => rfl
  | v :: l => by simp [flatten1 l]
theorem rows_rByte (I : Mem) : ∀ (cs : List Value) (bs : List UInt8), (rByte.rows 1).rel I cs bs ↔ cs = bs.map bv := by
  intro cs bs
  constructor
  · rintro ⟨css, rfl, h⟩
    induction bs generalizing css with
    | nil => cases css with
      | nil => rfl
      | cons _ _ => exact h.elim
    | cons b bs ih => cases css with
      | nil => exact h.elim
      | cons c css =>
        have h1 : c = [.int .u8 b.toNat] := h.1.1
        simp only [List.flatten_cons, ih css h.2, h1, List.map_cons, bv]; rfl
  · rintro rfl
    refine ⟨bs.map fun b => [bv b], ?_, ?_⟩
    · rw [← flatten1 (bs.map bv)]; simp [Function.comp_def]
    · induction bs with
      | nil => trivial
      | cons b bs ih => exact ⟨⟨rfl, rfl⟩, ih⟩
theorem rows_rInt (I : Mem) : ∀ (cs : List Value) (bs : List Int), (rInt.rows 1).rel I cs bs ↔ cs = bs.map iv := by
  intro cs bs
  constructor
  · rintro ⟨css, rfl, h⟩
    induction bs generalizing css with
    | nil => cases css with
      | nil => rfl
      | cons _ _ => exact h.elim
    | cons b bs ih => cases css with
      | nil => exact h.elim
      | cons c css =>
        have h1 : c = [.int .i64 b] := h.1.1
        simp only [List.flatten_cons, ih css h.2, h1, List.map_cons, iv]; rfl
  · rintro rfl
    refine ⟨bs.map fun b => [iv b], ?_, ?_⟩
    · rw [← flatten1 (bs.map iv)]; simp [Function.comp_def]
    · induction bs with
      | nil => trivial
      | cons b bs ih => exact ⟨⟨rfl, rfl⟩, ih⟩

section
variable {W w : World} {A : Assn}
/-- Bytes opened: the value's form, where its cells lie. -/
theorem Sat.bytes_open {v : Value} {bs : List UInt8} (h : Sat W w (sep (rBytes.is [v] bs) A)) :
    ∃ a c, v = .slice a bs.length c ∧ Swf a bs.length c ∧ Sat W w (sep (rsl a (bs.map bv)) (sep (rBytes.is [v] bs) A)) := by
  obtain ⟨a, c, cells, h1, h2, _, h4⟩ := h.pers_heap
  cases h1
  refine ⟨a, c, rfl, h2, ?_⟩
  refine h.dup.wk ?_
  rintro I m ⟨x, y, h5, h6, ⟨h7, a', c', cells', e1, e2, e3, e4⟩, h9⟩
  cases e1
  exact ⟨x, y, h5, h6, ⟨h7, by rw [(rows_rByte _ _ _).1 e4] at e3; exact e3⟩, h9⟩
theorem Sat.bytes_mk {a : Option Addr} {c : Nat} {bs : List UInt8} (h : Sat W w (sep (rsl a (bs.map bv)) A)) (hw : Swf a bs.length c) : Sat W w (sep (rBytes.is [.slice a bs.length c] bs) A) := by
  refine h.wk ?_
  rintro I m ⟨x, y, h5, h6, ⟨h7, h8⟩, h9⟩
  exact ⟨x, y, h5, h6, ⟨h7, a, c, _, rfl, hw, h8, (rows_rByte _ _ _).2 rfl⟩, h9⟩
theorem Sat.swf_of_osl {E k : Nat} {a : Option Addr} {n c : Nat} {xs : List Value} (h : Sat W w (sep (osl E k a n c xs) A)) : Swf a n c := by
  rcases h.osl_cases with ⟨rfl, rfl, rfl, rfl, _⟩ | ⟨g, cur, rfl, h1, h2, h3, _⟩
  · exact ⟨Nat.le_refl _, Nat.zero_le _, fun _ => rfl⟩
  · exact ⟨h2, h3, fun h => (by cases h)⟩
theorem Sat.bytes_of_osl {E : Nat} {a : Option Addr} {n c : Nat} {bs : List UInt8} (h : Sat W w (sep (osl E 1 a n c (bs.map bv)) A)) : n = bs.length ∧ Sat W w (sep (rBytes.is [.slice a n c] bs) A) := by
  have hn : n = bs.length := by have := h.osl_len.1; simp at this; exact this.symm
  subst hn
  exact ⟨rfl, h.osl_settle.bytes_mk h.swf_of_osl⟩
end

theorem rows_snoc {α : Type} {R : Rep α} {k : Nat} {I : Mem} {cs c : List Value} {xs : List α} {x : α} (h : (R.rows k).rel I cs xs) (hx : R.rel I c x) (hk : c.length = k) : (R.rows k).rel I (cs ++ c) (xs ++ [x]) := by
  obtain ⟨css, rfl, h2⟩ := h
  exact ⟨css ++ [c], by simp, h2.append ⟨⟨hx, hk⟩, trivial⟩⟩
theorem Sat.snoc {W w : World} {A : Assn} {α : Type} {R : Rep α} {k : Nat} {cs c : List Value} {xs : List α} {x : α} (h : Sat W w (sep ((R.rows k).is cs xs) (sep (R.is c x) A))) (hk : c.length = k) : Sat W w (sep ((R.rows k).is (cs ++ c) (xs ++ [x])) A) := by
  refine h.wk ?_
  rintro I m ⟨x1, y1, d1, e1, ⟨rfl, h1⟩, x2, y2, d2, rfl, ⟨rfl, h2⟩, h3⟩
  refine ⟨Mem.no, y2, fun _ => .inl rfl, by rw [e1, Mem.un_no], ⟨rfl, rows_snoc h1 h2 hk⟩, h3⟩
theorem All2.mem {α β : Type} {p : α → β → Prop} : ∀ {l : List α} {m : List β}, All2 p l m → ∀ a ∈ l, ∃ b, p a b
  | a :: l, b :: m, h, x, hx => by
    rcases List.mem_cons.1 hx with rfl | hx
    · exact ⟨b, h.1⟩
    · exact All2.mem h.2 x hx
  | [], _, _, _, hx => by cases hx
/-! ### maps keyed by integers -/
def keyIs (k : Int) (e : MapEntry) : Bool := match e.key with | .int _ n => n == k | _ => false
/-- The entries read as the function f. -/
structure MapRep (es : List MapEntry) (f : Int → Option Value) : Prop where
  keys : ∀ e ∈ es, ∃ k, e.key = .int .i64 k
  nodup : es.Pairwise fun x y => x.key ≠ y.key
  get : ∀ k, (es.find? (keyIs k)).map (·.val) = f k
def fset {α : Type} (f : Int → Option α) (k : Int) (v : Option α) : Int → Option α := fun x => if x = k then v else f x
theorem findNow_eq (k : Int) : ∀ (es : List MapEntry), (∀ e ∈ es, ∃ n, e.key = .int .i64 n) → ∀ i, ∃ r, Instr.findNow (.int .i64) (.int .i64 k) es i = some r ∧
    r.map (·.2) = (es.find? (keyIs k)).map (·.val) ∧ ∀ j v, r = some (j, v) → i ≤ j ∧ ∃ e, es[j - i]? = some e ∧ e.key = .int .i64 k ∧ e.val = v
  | [], _, i => ⟨none, rfl, rfl, fun _ _ h => (by cases h)⟩
  | e :: es, h, i => by
    obtain ⟨n, hn⟩ := h e (by simp)
    simp only [Instr.findNow, hn, Instr.sameNow, if_true]
    by_cases hk : k = n
    · subst hk
      refine ⟨some (i, e.val), by simp, by simp [keyIs, hn], ?_⟩
      rintro j v h
      cases h
      exact ⟨Nat.le_refl _, e, by simp, hn, rfl⟩
    · obtain ⟨r, h1, h2, h3⟩ := findNow_eq k es (fun x hx => h x (by simp [hx])) (i + 1)
      have : (k == n) = false := by simp [hk]
      refine ⟨r, by simp [this, h1], ?_, ?_⟩
      · rw [h2]
        have : keyIs k e = false := by simp [keyIs, hn]; omega
        simp [this]
      · intro j v hr
        obtain ⟨h4, e', h5, h6⟩ := h3 j v hr
        refine ⟨by omega, e', ?_, h6⟩
        rw [show j - i = (j - (i + 1)) + 1 by omega]
        simpa using h5
section
variable {P : Program} {W w : World} {A : Assn}
theorem MapRep.nil : MapRep [] (fun _ => none) := ⟨fun _ h => (by cases h), .nil, fun _ => rfl⟩
theorem MapRep.push {es : List MapEntry} {f : Int → Option Value} (h : MapRep es f) (k : Int) (v : Value) (c : Nat) (hk : f k = none) : MapRep (es ++ [{ key := .int .i64 k, val := v, born := c }]) (fset f k (some v)) := by
  have hno : ∀ e ∈ es, e.key ≠ .int .i64 k := fun e he hke => by
    have h1 := h.get k
    rw [hk] at h1
    cases hf : es.find? (keyIs k) with
    | some x => rw [hf] at h1; cases h1
    | none => rw [List.find?_eq_none] at hf; exact hf e he (by simp [keyIs, hke])
  refine ⟨fun e he => ?_, List.pairwise_append.2 ⟨h.nodup, by simp, fun x hx y hy => ?_⟩, fun x => ?_⟩
  · rcases List.mem_append.1 he with he | he
    · exact h.keys e he
    · simp at he; subst he; exact ⟨k, rfl⟩
  · simp at hy; subst hy; exact hno x hx
  · rw [List.find?_append]
    have h1 := h.get x
    by_cases e : x = k
    · subst e
      rw [hk] at h1
      have hf : es.find? (keyIs x) = none := by
        cases hf : es.find? (keyIs x) with
        | none => rfl
        | some _ => rw [hf] at h1; cases h1
      simp [hf, keyIs, fset]
    · have : (if k = x then some ({ key := .int .i64 k, val := v, born := c } : MapEntry) else none) = none := if_neg (fun h => e h.symm)
      simp [keyIs, fset, e, ← h1, beq_false_of_ne (fun h => e h.symm : k ≠ x)]
theorem find_key {es : List MapEntry} (hnd : es.Pairwise fun x y => x.key ≠ y.key) {j : Nat} {e : MapEntry} {k : Int} (hj : es[j]? = some e) (hek : e.key = .int .i64 k) :
    ∀ x ∈ es, x.key = .int .i64 k → ∃ j', es[j']? = some x ∧ j' = j := by
  intro x hx hxk
  obtain ⟨i, hi, rfl⟩ := List.mem_iff_getElem.1 hx
  refine ⟨i, List.getElem?_eq_getElem hi, ?_⟩
  obtain ⟨hj1, rfl⟩ := List.getElem?_eq_some_iff.1 hj
  rcases Nat.lt_trichotomy i j with h | h | h
  · exact absurd (hxk.trans hek.symm) (List.pairwise_iff_getElem.1 hnd i j hi hj1 h)
  · exact h
  · exact absurd (hek.trans hxk.symm) (List.pairwise_iff_getElem.1 hnd j i hj1 hi h)
theorem MapRep.erase {es : List MapEntry} {f : Int → Option Value} (h : MapRep es f) (k : Int) {j : Nat} {e : MapEntry} (hj : es[j]? = some e) (he : e.key = .int .i64 k) : MapRep (es.eraseIdx j) (fset f k none) := by
  have hsub := List.eraseIdx_sublist es j
  obtain ⟨hj1, hj2⟩ := List.getElem?_eq_some_iff.1 hj
  have hno : ∀ x ∈ es.eraseIdx j, x.key ≠ .int .i64 k := fun x hx hxk => by
    obtain ⟨i, hne, hi⟩ := List.mem_eraseIdx_iff_getElem?.1 hx
    obtain ⟨j', h1, h2⟩ := find_key h.nodup hj he x (hsub.mem hx) hxk
    obtain ⟨hi1, hi2⟩ := List.getElem?_eq_some_iff.1 hi
    rcases Nat.lt_trichotomy i j with h3 | h3 | h3
    · exact List.pairwise_iff_getElem.1 h.nodup i j hi1 hj1 h3 (by rw [hi2, hj2, hxk, he])
    · exact hne h3
    · exact List.pairwise_iff_getElem.1 h.nodup j i hj1 hi1 h3 (by rw [hi2, hj2, hxk, he])
  refine ⟨fun x hx => h.keys x (hsub.mem hx), h.nodup.sublist hsub, fun x => ?_⟩
  by_cases e' : x = k
  · subst e'
    have : (es.eraseIdx j).find? (keyIs x) = none := by
      rw [List.find?_eq_none]
      intro y hy hky
      obtain ⟨n, hn⟩ := h.keys y (hsub.mem hy)
      simp [keyIs, hn] at hky
      subst hky
      exact hno y hy hn
    simp [this, fset]
  · rw [show fset f k none x = f x by simp [fset, e'], ← h.get x]
    have hsplit : es = es.take j ++ e :: es.drop (j + 1) := by
      rw [← hj2, ← List.drop_eq_getElem_cons hj1, List.take_append_drop]
    have hke : keyIs x e = false := by simp [keyIs, he]; exact fun h => e' h.symm
    rw [List.eraseIdx_eq_take_drop_succ]
    conv => rhs; rw [hsplit]
    simp [List.find?_append, hke]

theorem run_checkKey_int {K : TypeId} {k : Int} (hK : P.underlying K = some (.int .i64)) (b : Bool) (w : World) : (Instr.checkKey b 10000 K (.int .i64 k)).run P w = .ok () w := by
  have : ∀ n, (Instr.checkKey b (n + 1) K (.int .i64 k)).run P w = .ok () w := fun n => by simp [Instr.checkKey, run_underlying hK]
  exact this 9999
theorem run_getObj_map {b : Nat} {es : Array MapEntry} {clock : Nat} (h : w.heap[b]? = some (.map es clock)) : (getObj b).run P w = .ok (.map es clock) w := by
  simp [getObj, Sem.run, h]
theorem run_findKey_int {K : TypeId} {k : Int} {es : List MapEntry} {f : Int → Option Value} (hK : P.underlying K = some (.int .i64)) (hr : MapRep es f) (w : World) :
    ∃ r, (Instr.findKey K (.int .i64 k) es).run P w = .ok r w ∧ r.map (·.2) = f k ∧ ∀ j v, r = some (j, v) → ∃ e, es[j]? = some e ∧ e.key = .int .i64 k ∧ e.val = v := by
  obtain ⟨r, h1, h2, h3⟩ := findNow_eq k es hr.keys 0
  refine ⟨r, ?_, by rw [h2, hr.get], fun j v h => by simpa using (h3 j v h).2⟩
  simp [Instr.findKey, run_underlying hK, h1]
theorem run_setObj_map {b : Nat} {es : Array MapEntry} {clock : Nat} (h : w.heap[b]? = some (.map es clock)) (o : Obj) : (setObj b o).run P w = .ok () { w with heap := w.heap.setIfInBounds b o } := by
  simp [setObj, Sem.run, h]
theorem Sat.setObj {b : Nat} {o : Obj} (h : Sat W w (sep (blk b o) A)) (o' : Obj) : Sat W { w with heap := w.heap.setIfInBounds b o' } (sep (blk b o') A) :=
  h.change rfl rfl rfl (by simp [h.lt]) fun k hk _ => by simp [Ne.symm hk]
theorem MapRep.modify {es : List MapEntry} {f : Int → Option Value} (h : MapRep es f) (k : Int) (v : Value) {j : Nat} {e : MapEntry} (hj : es[j]? = some e) (he : e.key = .int .i64 k) :
    MapRep (es.modify j fun x => { x with key := .int .i64 k, val := v }) (fset f k (some v)) := by
  obtain ⟨hj1, hj2⟩ := List.getElem?_eq_some_iff.1 hj
  have hsplit : es = es.take j ++ e :: es.drop (j + 1) := by
    rw [← hj2, ← List.drop_eq_getElem_cons hj1, List.take_append_drop]
  have hmod : (es.modify j fun x => { x with key := .int .i64 k, val := v }) = es.take j ++ { e with key := .int .i64 k, val := v } :: es.drop (j + 1) := by
    rw [List.modify_eq_take_cons_drop hj1, hj2]
  have hnd := h.nodup
  rw [hsplit] at hnd
  rw [hmod]
  have hp := List.pairwise_append.1 hnd
  have hc := List.pairwise_cons.1 hp.2.1
  refine ⟨fun x hx => ?_, List.pairwise_append.2 ⟨hp.1, List.pairwise_cons.2 ⟨fun y hy => ?_, hc.2⟩, fun x hx y hy => ?_⟩, fun x => ?_⟩
  · simp only [List.mem_append, List.mem_cons] at hx
    rcases hx with hx | rfl | hx
    · exact h.keys x (List.mem_of_mem_take hx)
    · exact ⟨k, rfl⟩
    · exact h.keys x (List.mem_of_mem_drop hx)
  · have := hc.1 y hy; rw [he] at this; exact this
  · rcases List.mem_cons.1 hy with rfl | hy
    · have := hp.2.2 x hx e (by simp); rw [he] at this; exact this
    · exact hp.2.2 x hx y (by simp [hy])
  · by_cases e' : x = k
    · subst e'
      have hno : (es.take j).find? (keyIs x) = none := by
        rw [List.find?_eq_none]
        intro y hy hky
        obtain ⟨n, hn⟩ := h.keys y (List.mem_of_mem_take hy)
        simp [keyIs, hn] at hky
        subst hky
        exact hp.2.2 y hy e (by simp) (hn.trans he.symm)
      simp [List.find?_append, hno, keyIs, fset]
    · rw [show fset f k (some v) x = f x by simp [fset, e'], ← h.get x]
      have h1 : keyIs x e = false := by simp [keyIs, he]; exact fun h => e' h.symm
      have h2 : keyIs x { e with key := .int .i64 k, val := v } = false := by simp [keyIs]; exact fun h => e' h.symm
      conv => rhs; rw [hsplit]
      simp [List.find?_append, h1, h2]
theorem sameBits_int (n : Nat) (k : Int) : Instr.sameBits n (.int .i64 k) (.int .i64 k) = true := by cases n <;> simp [Instr.sameBits]
end
end PA
/- The hash in plain: words, mix, sums. No program in sight. -/
namespace PA
open Go
/-- Numbers of 64 bits. -/
abbrev U64 := { x : Nat // x < 18446744073709551616 }
end PA
/- Package hash: mix; the iterators over the words. -/
namespace Go.Proofs.YtodipneapffjdaaGreatDoor
open Go.RowKit PA
theorem _root_.PA.ret_int {k : IntKind} {a b : Int} (h : a = b) : Ending.returned (.int k a) = .returned (.int k b) := by rw [h]
/-- What lies below n is as it was; so is the box. -/
def KpB (n B : Nat) (W W' : World) : Prop := Below n W W' ∧ W'.cell? ⟨B, 0, none⟩ = W.cell? ⟨B, 0, none⟩
theorem KpB.refl (n B : Nat) (W : World) : KpB n B W W := ⟨Below.refl _ _, rfl⟩
theorem KpB.trans {n B : Nat} {W W' W'' : World} (h : KpB n B W W') (k : KpB n B W' W'') : KpB n B W W'' := ⟨h.1.trans k.1, k.2.trans h.2⟩
attribute [local go_sem] Oper.semAt_some
end Go.Proofs.YtodipneapffjdaaGreatDoor
/- Package hash: Sum. -/
namespace Go.Proofs.YtodipneapffjdaaGreatDoor
open Go.RowKit PA
attribute [local go_sem] Oper.semAt_some
end Go.Proofs.YtodipneapffjdaaGreatDoor
/- Package hash: Bytes. -/
namespace Go.Proofs.YtodipneapffjdaaGreatDoor
open Go.RowKit PA
attribute [local go_sem] Oper.semAt_some
end Go.Proofs.YtodipneapffjdaaGreatDoor
/- Facts on blocks that no longer change, kept beside the assertion. Plain Lean, no program in sight. -/
namespace PA
open Go Go.RowKit
/-- What no longer changes in I stands. -/
def kn (I : Mem) : Assn := pers (Mem.le I) fun _ _ hl h b o hb => hl _ _ (h b o hb)
def Ext (I : Mem) (w : World) : Prop := ∀ b o, I b = some o → w.heap[b]? = some o
section
variable {W w w' : World} {A : Assn} {I J : Mem}
theorem Sat.ext (h : Sat W w (sep (kn I) A)) : Ext I w := h.pers_heap
theorem Sat.know (h : Sat W w A) : ∃ I, Sat W w (sep (kn I) A) := by
  obtain ⟨h1, h2, h3, I, m, h4, h5, h6, h7⟩ := h
  exact ⟨I, h1, h2, h3, I, m, h4, h5, h6, Mem.no, m, fun _ => .inl rfl, (Mem.un_no _).symm, ⟨rfl, Mem.le_refl I⟩, h7⟩
theorem Sat.learn {p : Mem → Prop} {hp : ∀ I J, Mem.le I J → p I → p J} (h : Sat W w (sep (pers p hp) (sep (kn I) A))) : ∃ J, Mem.le I J ∧ p J ∧ Sat W w (sep (kn J) A) := by
  obtain ⟨h1, h2, h3, J, m, h4, h5, h6, x, y, h7, rfl, ⟨rfl, hp'⟩, x', y', h8, rfl, ⟨rfl, hle⟩, h9⟩ := h
  refine ⟨J, hle, hp', h1, h2, h3, J, _, h4, h5, h6, Mem.no, y', fun _ => .inl rfl, ?_, ⟨rfl, Mem.le_refl J⟩, h9⟩
  rw [Mem.un_no]
theorem Sat.tell {p : Mem → Prop} {hp : ∀ I J, Mem.le I J → p I → p J} (h : Sat W w (sep (kn I) A)) (hI : p I) : Sat W w (sep (pers p hp) (sep (kn I) A)) := by
  refine h.wk ?_
  rintro K m ⟨x, y, h7, rfl, ⟨rfl, hle⟩, h9⟩
  exact ⟨Mem.no, _, fun _ => .inl rfl, (Mem.un_no _).symm, ⟨rfl, hp _ _ hle hI⟩, Mem.no, y, fun _ => .inl rfl, rfl, ⟨rfl, hle⟩, h9⟩
theorem Mem.le_trans {I J K : Mem} (h : Mem.le I J) (k : Mem.le J K) : Mem.le I K := fun _ _ hb => k _ _ (h _ _ hb)
theorem cells_ext {a : Option Addr} {xs : List Value} (h : cellsAt a xs I) (hne : xs ≠ []) : ∃ b o, a = some ⟨b, o, none⟩ ∧ ∀ w', Ext I w' → ∀ i u, xs[i]? = some u → w'.cell? ⟨b, o + i, none⟩ = some u := by
  rcases h with h | ⟨b, o, cs, t, f, h1, h2, h3⟩
  · exact absurd h hne
  · exact ⟨b, o, h1, fun w' he i u hu => by rw [cell_of_row w' b (o + i) cs t f (he _ _ h2)]; exact h3 i u hu⟩
theorem cellsAt_mono {a : Option Addr} {xs : List Value} (hl : Mem.le I J) (h : cellsAt a xs I) : cellsAt a xs J := by
  rcases h with h | ⟨b, o, cs, t, f, h1, h2, h3⟩
  · exact .inl h
  · exact .inr ⟨b, o, cs, t, f, h1, hl _ _ h2, h3⟩
theorem bytes_rel {v : Value} {bs : List UInt8} : rBytes.rel I [v] bs ↔ ∃ a c, v = .slice a bs.length c ∧ Swf a bs.length c ∧ cellsAt a (bs.map bv) I := by
  constructor
  · rintro ⟨a, c, cells, h1, h2, h3, h4⟩
    cases h1
    rw [(rows_rByte _ _ _).1 h4] at h3
    exact ⟨a, c, rfl, h2, h3⟩
  · rintro ⟨a, c, rfl, h2, h3⟩
    exact ⟨a, c, _, rfl, h2, h3, (rows_rByte _ _ _).2 rfl⟩
end
theorem new_src (w : World) (cs : List Value) (t : TypeId) : ∀ j u, cs[j]? = some u → (w.alloc (.cells cs.toArray t)).cell? ((⟨w.heap.size, 0, none⟩ : Addr).add j) = some u := by
  intro j u h
  have : (⟨w.heap.size, 0, none⟩ : Addr).add j = ⟨w.heap.size, j, none⟩ := by unfold Addr.add; split <;> simp_all
  rw [this, World.cell?_alloc_new]
  simpa using h
theorem old_src {w : World} {b : Addr} {xs : List Value} (h : ∀ j u, xs[j]? = some u → w.cell? (b.add j) = some u) (o : Obj) : ∀ j u, xs[j]? = some u → (w.alloc o).cell? (b.add j) = some u := by
  intro j u hu
  have := h j u hu
  rw [World.cell?_alloc_lt w o _ (World.block_lt_of_cell? w _ this)]
  exact this
theorem bv_one (bs : List UInt8) : ∀ u ∈ bs.map bv, u.oneCell' = true := by
  intro u hu
  obtain ⟨b, _, rfl⟩ := List.mem_map.1 hu
  rfl
/-- Cells that are known, as an append's source. -/
theorem src_ext {I : Mem} {w : World} {a : Option Addr} {xs : List Value} (h : cellsAt a xs I) (he : Ext I w) : ∀ b, a = some b → ∀ j u, xs[j]? = some u → w.cell? (b.add j) = some u := by
  intro b hb j u hu
  obtain ⟨b', o, e, hc⟩ := cells_ext h (fun e => by rw [e] at hu; simp at hu)
  rw [hb] at e; cases e
  have := hc w he j u hu
  unfold Addr.add
  split
  · rename_i e; subst e; simpa using this
  · exact this
end PA
/- The reference's hash: Words, Sum, Bytes; both hashes as contracts over assertions. -/
namespace Go.Proofs.YtodipneapffjdaaGreatDoor
open Go.RowKit PA
end Go.Proofs.YtodipneapffjdaaGreatDoor
/- The reference's hash of bytes. -/
namespace Go.Proofs.YtodipneapffjdaaGreatDoor
open Go.RowKit PA
end Go.Proofs.YtodipneapffjdaaGreatDoor
