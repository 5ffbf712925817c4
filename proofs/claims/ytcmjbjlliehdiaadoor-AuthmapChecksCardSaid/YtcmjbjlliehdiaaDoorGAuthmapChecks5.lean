/- Owned maps whose keys are any comparable values (a struct of numbers, say), with stamps, and a range over such a map. Plain Lean, no program in sight. -/
import Derived.Test.YtcmjbjlliehdiaaDoorGAuthmapChecksSBm
import Derived.DeepKeys3
import Derived.Test.YtcmjbjlliehdiaaDoorGAuthmapChecks0
namespace PA
open Go Go.RowKit
/-- What is asked of a kind of keys: enc is how a key lies in memory. -/
structure GKey (P : Program) (K : TypeId) {κ : Type} (enc : κ → Value) : Prop where
  inj : ∀ a b, enc a = enc b → a = b
  check : ∀ (w : World) (em : Bool) a, (Instr.checkKey em 10000 K (enc a)).run P w = .ok () w
  find : ∀ (w : World) a (es : List MapEntry), (∀ e ∈ es, ∃ k, e.key = enc k) →
    ((Instr.findKey K (enc a) es).run P w = .ok none w ∧ ∀ e ∈ es, e.key ≠ enc a) ∨ ∃ j e, (Instr.findKey K (enc a) es).run P w = .ok (some (j, e.val)) w ∧ es[j]? = some e ∧ e.key = enc a
  stays : ∀ (w : World) a, (Instr.keyThatStays (enc a) (enc a)).run P w = .ok (enc a) w
theorem GKey.of_law {P : Program} {K : TypeId} {κ : Type} {enc : κ → Value} (h : WideMaps.KeyLaw P K) (hi : ∀ a b, enc a = enc b → a = b) (hk : ∀ a, ∃ l, keyOf P K (enc a) = some l) : GKey P K enc := by
  refine ⟨hi, fun w em a => ?_, fun w a es he => ?_, fun w a => ?_⟩
  · obtain ⟨l, hl⟩ := hk a
    exact h.check w em hl
  · obtain ⟨l, hl⟩ := hk a
    exact h.find w hl es fun e h' => by
      obtain ⟨k, hke⟩ := he e h'
      obtain ⟨l', hl'⟩ := hk k
      exact ⟨l', by rw [hke]; exact hl'⟩
  · obtain ⟨l, hl⟩ := hk a
    exact h.stays w hl
section
variable {κ : Type} {enc : κ → Value}
structure GRep (enc : κ → Value) (es : List MapEntry) (f : κ → Option Value) : Prop where
  keys : ∀ e ∈ es, ∃ k, e.key = enc k
  nodup : es.Pairwise fun x y => x.key ≠ y.key
  get : ∀ k v, f k = some v ↔ ∃ e ∈ es, e.key = enc k ∧ e.val = v
theorem GRep.nil : GRep enc [] (fun _ => none) := ⟨fun _ h => (by cases h), .nil, fun _ _ => by simp⟩
theorem key_eq {es : List MapEntry} (hn : es.Pairwise fun x y => x.key ≠ y.key) {x y : MapEntry} (hx : x ∈ es) (hy : y ∈ es) (h : x.key = y.key) : x = y := by
  obtain ⟨i, hi, rfl⟩ := List.mem_iff_getElem.1 hx
  obtain ⟨j, hj, rfl⟩ := List.mem_iff_getElem.1 hy
  rcases Nat.lt_trichotomy i j with h' | rfl | h'
  · exact absurd h (List.pairwise_iff_getElem.1 hn i j hi hj h')
  · rfl
  · exact absurd h.symm (List.pairwise_iff_getElem.1 hn j i hj hi h')
theorem GRep.isNo {es : List MapEntry} {f : κ → Option Value} (h : GRep enc es f) {k : κ} (hk : ∀ e ∈ es, e.key ≠ enc k) : f k = none := by
  cases hf : f k with
  | none => rfl
  | some v => obtain ⟨e, he, h1, -⟩ := (h.get k v).1 hf; exact absurd h1 (hk e he)
theorem GRep.isSo {es : List MapEntry} {f : κ → Option Value} (h : GRep enc es f) {e : MapEntry} (he : e ∈ es) {k : κ} (hk : e.key = enc k) : f k = some e.val := (h.get k e.val).2 ⟨e, he, hk, rfl⟩
open Classical in
noncomputable def gset {α : Type} (f : κ → Option α) (k : κ) (v : Option α) : κ → Option α := fun x => if x = k then v else f x
theorem gset_same {α : Type} (f : κ → Option α) (k : κ) (v : Option α) : gset f k v k = v := if_pos rfl
theorem gset_other {α : Type} (f : κ → Option α) {k x : κ} (v : Option α) (h : x ≠ k) : gset f k v x = f x := if_neg h
theorem GRep.push (hi : ∀ a b, enc a = enc b → a = b) {es : List MapEntry} {f : κ → Option Value} (h : GRep enc es f) (k : κ) (v : Value) (c : Nat) (hk : ∀ e ∈ es, e.key ≠ enc k) : GRep enc (es ++ [{ key := enc k, val := v, born := c }]) (gset f k (some v)) := by
  refine ⟨fun e he => ?_, List.pairwise_append.2 ⟨h.nodup, by simp, fun x hx y hy => ?_⟩, fun x u => ?_⟩
  · rcases List.mem_append.1 he with he | he
    · exact h.keys e he
    · simp at he; subst he; exact ⟨k, rfl⟩
  · simp at hy; subst hy; exact hk x hx
  · by_cases e : x = k
    · subst e
      rw [gset_same]
      constructor
      · rintro ⟨⟩; exact ⟨{ key := enc x, val := v, born := c }, by simp, rfl, rfl⟩
      · rintro ⟨e, he, h1, rfl⟩
        rcases List.mem_append.1 he with he | he
        · exact absurd h1 (hk e he)
        · simp at he; subst he; rfl
    · rw [gset_other _ _ e, h.get]
      constructor
      · rintro ⟨y, hy, h1, h2⟩; exact ⟨y, by simp [hy], h1, h2⟩
      · rintro ⟨y, hy, h1, h2⟩
        rcases List.mem_append.1 hy with hy | hy
        · exact ⟨y, hy, h1, h2⟩
        · simp at hy; subst hy; exact absurd (hi _ _ h1).symm e
theorem GRep.erase (hi : ∀ a b, enc a = enc b → a = b) {es : List MapEntry} {f : κ → Option Value} (h : GRep enc es f) (k : κ) {j : Nat} {e : MapEntry} (hj : es[j]? = some e) (he : e.key = enc k) : GRep enc (es.eraseIdx j) (gset f k none) := by
  have hsub := List.eraseIdx_sublist es j
  obtain ⟨hj1, hj2⟩ := List.getElem?_eq_some_iff.1 hj
  have hno : ∀ x ∈ es.eraseIdx j, x.key ≠ enc k := fun x hx hxk => by
    obtain ⟨i, hne, hi⟩ := List.mem_eraseIdx_iff_getElem?.1 hx
    obtain ⟨hi1, hi2⟩ := List.getElem?_eq_some_iff.1 hi
    rcases Nat.lt_trichotomy i j with h3 | h3 | h3
    · exact List.pairwise_iff_getElem.1 h.nodup i j hi1 hj1 h3 (by rw [hi2, hj2, hxk, he])
    · exact hne h3
    · exact List.pairwise_iff_getElem.1 h.nodup j i hj1 hi1 h3 (by rw [hi2, hj2, hxk, he])
  refine ⟨fun x hx => h.keys x (hsub.mem hx), h.nodup.sublist hsub, fun x u => ?_⟩
  by_cases e' : x = k
  · subst e'
    rw [gset_same]
    constructor
    · rintro ⟨⟩
    · rintro ⟨y, hy, h1, -⟩; exact absurd h1 (hno y hy)
  · rw [gset_other _ _ e', h.get]
    constructor
    · rintro ⟨y, hy, h1, h2⟩
      refine ⟨y, ?_, h1, h2⟩
      obtain ⟨i, hi1, hi2⟩ := List.mem_iff_getElem.1 hy
      refine List.mem_eraseIdx_iff_getElem?.2 ⟨i, fun hij => ?_, by rw [List.getElem?_eq_getElem hi1, hi2]⟩
      subst hij
      rw [hj2] at hi2
      subst hi2
      exact e' (hi _ _ (h1.symm.trans he))
    · rintro ⟨y, hy, h1, h2⟩; exact ⟨y, hsub.mem hy, h1, h2⟩
theorem modify_keys {es : List MapEntry} {j : Nat} {e : MapEntry} {kv : Value} (hj : es[j]? = some e) (he : e.key = kv) (v : Value) : (es.modify j fun x => { x with key := kv, val := v }).map (·.key) = es.map (·.key) := by
  apply List.ext_getElem
  · simp
  · intro i h1 h2
    simp only [List.getElem_map, List.getElem_modify]
    split
    · rename_i hij; subst hij
      have := (List.getElem?_eq_some_iff.1 hj).2
      rw [this]; exact he.symm
    · rfl
theorem GRep.modify (hi : ∀ a b, enc a = enc b → a = b) {es : List MapEntry} {f : κ → Option Value} (h : GRep enc es f) (k : κ) (v : Value) {j : Nat} {e : MapEntry} (hj : es[j]? = some e) (he : e.key = enc k) :
    GRep enc (es.modify j fun x => { x with key := enc k, val := v }) (gset f k (some v)) := by
  have hks := modify_keys hj he v
  obtain ⟨hj1, hj2⟩ := List.getElem?_eq_some_iff.1 hj
  have hpw : ∀ {l : List MapEntry}, (l.Pairwise fun x y => x.key ≠ y.key) ↔ (l.map (·.key)).Pairwise (· ≠ ·) := fun {l} => (List.pairwise_map).symm
  have hmem : ∀ x, x ∈ (es.modify j fun x => { x with key := enc k, val := v }) ↔ (∃ i, ∃ hi : i < es.length, i ≠ j ∧ es[i] = x) ∨ x = { e with key := enc k, val := v } := by
    intro x
    rw [List.mem_iff_getElem]
    constructor
    · rintro ⟨i, hi, rfl⟩
      rw [List.length_modify] at hi
      rw [List.getElem_modify]
      split
      · rename_i hij; subst hij; right; rw [hj2]
      · rename_i hij; left; exact ⟨i, hi, fun e => hij e.symm, rfl⟩
    · rintro (⟨i, hi, hne, rfl⟩ | rfl)
      · exact ⟨i, by rw [List.length_modify]; exact hi, by rw [List.getElem_modify, if_neg (Ne.symm hne)]⟩
      · exact ⟨j, by rw [List.length_modify]; exact hj1, by rw [List.getElem_modify, if_pos rfl, hj2]⟩
  refine ⟨fun x hx => ?_, hpw.2 (by rw [hks]; exact hpw.1 h.nodup), fun x u => ?_⟩
  · rcases (hmem x).1 hx with ⟨i, hi, -, rfl⟩ | rfl
    · exact h.keys _ (List.getElem_mem hi)
    · exact ⟨k, rfl⟩
  · by_cases e' : x = k
    · subst e'
      rw [gset_same]
      constructor
      · rintro ⟨⟩; exact ⟨_, (hmem _).2 (.inr rfl), rfl, rfl⟩
      · rintro ⟨y, hy, h1, rfl⟩
        rcases (hmem y).1 hy with ⟨i, hi', hne, rfl⟩ | rfl
        · rcases Nat.lt_trichotomy i j with h3 | h3 | h3
          · exact absurd (by rw [h1, hj2, he]) (List.pairwise_iff_getElem.1 h.nodup i j hi' hj1 h3)
          · exact absurd h3 hne
          · exact absurd (by rw [h1, hj2, he]) (List.pairwise_iff_getElem.1 h.nodup j i hj1 hi' h3)
        · rfl
    · rw [gset_other _ _ e', h.get]
      constructor
      · rintro ⟨y, hy, h1, h2⟩
        obtain ⟨i, hi', rfl⟩ := List.mem_iff_getElem.1 hy
        refine ⟨_, (hmem _).2 (.inl ⟨i, hi', fun hij => ?_, rfl⟩), h1, h2⟩
        subst hij
        rw [hj2] at h1
        exact e' (hi _ _ (h1.symm.trans he))
      · rintro ⟨y, hy, h1, h2⟩
        rcases (hmem y).1 hy with ⟨i, hi', hne, rfl⟩ | rfl
        · exact ⟨_, List.getElem_mem hi', h1, h2⟩
        · exact absurd (hi _ _ h1).symm e'
def gmap (enc : κ → Value) (b : Nat) (f : κ → Option Value) (n : Nat) : Assn := ex fun s : Array MapEntry × Nat => sep (fact (GRep enc s.1.toList f ∧ s.1.size = n ∧ Born s.1.toList s.2)) (blk b (.map s.1 s.2))
variable {P : Program} {W w : World} {A : Assn}
theorem Sat.gmap_open {b : Nat} {f : κ → Option Value} {n : Nat} (h : Sat W w (sep (gmap enc b f n) A)) : ∃ es clock, GRep enc es.toList f ∧ es.size = n ∧ Born es.toList clock ∧ Sat W w (sep (blk b (.map es clock)) A) := by
  rw [gmap, ex_sep, Sat.ex] at h
  obtain ⟨⟨es, clock⟩, h⟩ := h
  rw [sep_assoc] at h
  have h' := Sat.fact.1 h
  exact ⟨es, clock, h'.1.1, h'.1.2.1, h'.1.2.2, h'.2⟩
theorem Sat.gmap_mk {b : Nat} {f : κ → Option Value} {n : Nat} {es : Array MapEntry} {clock : Nat} (h : Sat W w (sep (blk b (.map es clock)) A)) (h1 : GRep enc es.toList f) (h2 : es.size = n) (h3 : Born es.toList clock) : Sat W w (sep (gmap enc b f n) A) := by
  rw [gmap, ex_sep, Sat.ex]
  refine ⟨(es, clock), ?_⟩
  rw [sep_assoc]
  exact Sat.fact.2 ⟨⟨h1, h2, h3⟩, h⟩
theorem Sat.gmap_new (enc : κ → Value) (h : Sat W w A) : Sat W (w.alloc (.map #[] 0)) (sep (gmap enc w.heap.size (fun _ => none) 0) A) :=
  (h.alloc (.map #[] 0)).gmap_mk GRep.nil rfl (Born.nil 0)
theorem Sat.gmap_ext {b : Nat} {f g : κ → Option Value} {n : Nat} (h : Sat W w (sep (gmap enc b f n) A)) (e : ∀ k, f k = g k) : Sat W w (sep (gmap enc b g n) A) := by
  obtain rfl : f = g := funext e
  exact h
/-- 'm[k]', 'v, ok := m[k]'. -/
theorem run_lookup_gmap {T K E : TypeId} {z : Value} (hT : P.underlying T = some (.map K E)) (hK : GKey P K enc) (hz : ∀ w, (zeroValue E).run P w = .ok z w)
    {b : Nat} {f : κ → Option Value} {n : Nat} (h : Sat W w (sep (gmap enc b f n) A)) (k : κ) (ok : Bool) :
    (Instr.lookup T (.map (some b)) (enc k) ok).run P w = .ok (if ok then .tuple #[(f k).getD z, .bool (f k).isSome] else (f k).getD z) w := by
  obtain ⟨es, clock, h1, h2, -, h3⟩ := h.gmap_open
  have hg := run_getObj_map (P := P) h3.blk_heap
  rcases hK.find w k es.toList h1.keys with ⟨e1, e2⟩ | ⟨j, e, e1, e2, e3⟩
  · rw [h1.isNo e2]
    cases ok <;> simp [Instr.lookup, run_underlying hT, hg, hK.check, e1, hz]
  · rw [h1.isSo (List.mem_of_getElem? e2) e3]
    cases ok <;> simp [Instr.lookup, run_underlying hT, hg, hK.check, e1]
/-- 'm[k] = v', whether the key was there or not. -/
theorem run_update_gmap {T K E : TypeId} (hT : P.underlying T = some (.map K E)) (hK : GKey P K enc) {b : Nat} {f : κ → Option Value} {n : Nat} (h : Sat W w (sep (gmap enc b f n) A)) (k : κ) (v : Value) :
    ∃ w', (Instr.mapUpdate T (.map (some b)) (enc k) v).run P w = .ok () w' ∧ ∃ n', Sat W w' (sep (gmap enc b (gset f k (some v)) n') A) := by
  obtain ⟨es, clock, h1, h2, hb, h3⟩ := h.gmap_open
  have hg := run_getObj_map (P := P) h3.blk_heap
  rcases hK.find w k es.toList h1.keys with ⟨e1, e2⟩ | ⟨j, e, e1, e2, e3⟩
  · refine ⟨_, by simp [Instr.mapUpdate, run_underlying hT, hg, hK.check, e1, run_setObj_map (P := P) h3.blk_heap]; rfl, n + 1, (h3.setObj _).gmap_mk ?_ (by simp [h2]) ?_⟩
    · simpa using h1.push hK.inj k v clock e2
    · simpa using hb.push (enc k) v
  · have hkey : ((es[j]?.map (·.key)).getD (enc k)) = enc k := by
      have : es[j]? = some e := by simpa using e2
      simp [this, e3]
    refine ⟨_, by simp [Instr.mapUpdate, run_underlying hT, hg, hK.check, e1, hkey, hK.stays, run_setObj_map (P := P) h3.blk_heap]; rfl, n, (h3.setObj _).gmap_mk ?_ (by simp [h2]) ?_⟩
    · simpa using h1.modify hK.inj k v e2 e3
    · simpa using hb.modify j (enc k) v
/-- 'delete(m, k)'. -/
theorem run_delete_gmap {T K E ty : TypeId} {u : TypeId} (hT : P.underlying T = some (.map K E)) (hK : GKey P K enc) {b : Nat} {f : κ → Option Value} {n : Nat} (h : Sat W w (sep (gmap enc b f n) A)) (k : κ) :
    ∃ w', (Builtin.delete_ #[T, u] ty #[.map (some b), enc k]).run P w = .ok (.tuple #[]) w' ∧ ∃ n', Sat W w' (sep (gmap enc b (gset f k none) n') A) := by
  obtain ⟨es, clock, h1, h2, hb, h3⟩ := h.gmap_open
  have hg := run_getObj_map (P := P) h3.blk_heap
  rcases hK.find w k es.toList h1.keys with ⟨e1, e2⟩ | ⟨j, e, e1, e2, e3⟩
  · refine ⟨_, by simp [Builtin.delete_, run_underlying hT, hg, hK.check, e1, run_setObj_map (P := P) h3.blk_heap], n, ((h3.setObj _).gmap_mk h1 h2 hb).gmap_ext fun x => ?_⟩
    by_cases hx : x = k
    · subst hx; rw [gset_same, h1.isNo e2]
    · rw [gset_other _ _ hx]
  · have hj : j < es.size := by have := (List.getElem?_eq_some_iff.1 e2).1; simpa using this
    refine ⟨_, by simp [Builtin.delete_, run_underlying hT, hg, hK.check, e1, run_setObj_map (P := P) h3.blk_heap]; rfl, n - 1, (h3.setObj _).gmap_mk ?_ (by subst h2; simp [Array.eraseIdxIfInBounds, hj]) ?_⟩
    · simpa [Array.eraseIdxIfInBounds, hj] using h1.erase hK.inj k e2 e3
    · simpa [Array.eraseIdxIfInBounds, hj] using hb.erase j
end
/-- Blocks of keys: a level and a number. -/
def bkv (x : Nat × Int) : Value := .agg #[.int .i64 (x.1 : Nat), .int .i64 x.2]
theorem bkv_inj (a b : Nat × Int) (h : bkv a = bkv b) : a = b := by
  obtain ⟨a1, a2⟩ := a
  obtain ⟨b1, b2⟩ := b
  simp only [bkv, Value.agg.injEq, Array.mk.injEq, List.cons.injEq, Value.int.injEq, true_and, and_true] at h
  rw [show a1 = b1 by omega, h.2]
end PA
/- The authenticated map in plain: the hashes of its blocks, what lies outside a range. No program in sight. -/
namespace PA
open Go Go.RowKit
def pairL : List UInt8 := [112, 97, 105, 114]
def valueL : List UInt8 := [118, 97, 108, 117, 101]
def blockL : List UInt8 := [98, 108, 111, 99, 107]
def leafN (k : Int) (v : List UInt8) : Nat := sumN pairL [k, (v.length : Int), wrap64 ((bytesN valueL v : Nat) : Int)]
def nodeN (a b : Nat) : Nat := sumN blockL [wrap64 (a : Int), wrap64 (b : Int)]
def joinN : Option Nat → Option Nat → Option Nat
  | none, none => none
  | a, b => some (nodeN (a.getD 0) (b.getD 0))
abbrev KVs := Int → Option (List UInt8)
/-- The hash of the block of the keys from n * 2^l on, as many as 2^l. -/
def hbN (M : KVs) : Nat → Int → Option Nat
  | 0, n => (M n).map (leafN n)
  | l + 1, n => joinN (hbN M l (2 * n)) (hbN M l (2 * n + 1))
theorem leafN_lt (k : Int) (v : List UInt8) : leafN k v < 18446744073709551616 := sumU_lt _ _
theorem nodeN_lt (a b : Nat) : nodeN a b < 18446744073709551616 := sumU_lt _ _
theorem joinN_lt (a b : Option Nat) : ∀ h, joinN a b = some h → h < 18446744073709551616 := by
  intro h e
  cases a <;> cases b <;> simp only [joinN, Option.some.injEq, reduceCtorEq] at e <;> subst e <;> exact nodeN_lt _ _
theorem hbN_lt (M : KVs) (l : Nat) (n : Int) : ∀ h, hbN M l n = some h → h < 18446744073709551616 := by
  intro h e
  cases l with
  | zero =>
    rw [hbN, Option.map_eq_some_iff] at e
    obtain ⟨v, -, rfl⟩ := e
    exact leafN_lt _ _
  | succ l => exact joinN_lt _ _ h e
theorem pow_pos2 (l : Nat) : (0 : Int) < 2 ^ l := Int.pow_pos (by decide)
/-- Key k lies in block n of level l. -/
def inB (l : Nat) (n k : Int) : Prop := n * 2 ^ l ≤ k ∧ k < (n + 1) * 2 ^ l
theorem inB_succ (l : Nat) (n k : Int) : inB (l + 1) n k ↔ inB l (2 * n) k ∨ inB l (2 * n + 1) k := by
  unfold inB
  have e1 : n * 2 ^ (l + 1) = 2 * n * 2 ^ l := by rw [Int.pow_succ, Int.mul_comm (2 ^ l) 2, ← Int.mul_assoc, Int.mul_comm n 2]
  have e2 : (n + 1) * 2 ^ (l + 1) = (2 * n + 1 + 1) * 2 ^ l := by rw [Int.pow_succ, Int.mul_comm (2 ^ l) 2, ← Int.mul_assoc]; congr 1; omega
  have e3 : (2 * n + 1) * 2 ^ l = 2 * n * 2 ^ l + 2 ^ l := by rw [Int.add_mul, Int.one_mul]
  have e4 : (2 * n + 1 + 1) * 2 ^ l = 2 * n * 2 ^ l + 2 ^ l + 2 ^ l := by rw [Int.add_mul, Int.one_mul, e3]
  have hp := pow_pos2 l
  rw [e1, e2, e4, e3]
  generalize 2 * n * 2 ^ l = x at *
  generalize (2 : Int) ^ l = p at *
  omega
theorem inB_zero (n k : Int) : inB 0 n k ↔ k = n := by unfold inB; simp; omega
theorem hbN_same {M M' : KVs} : ∀ (l : Nat) (n : Int), (∀ k, inB l n k → M k = M' k) → hbN M l n = hbN M' l n
  | 0, n, h => by rw [hbN, hbN, h n ((inB_zero n n).2 rfl)]
  | l + 1, n, h => by
    rw [hbN, hbN, hbN_same l (2 * n) fun k hk => h k ((inB_succ l n k).2 (.inl hk)), hbN_same l (2 * n + 1) fun k hk => h k ((inB_succ l n k).2 (.inr hk))]
theorem joinN_none {a b : Option Nat} : joinN a b = none ↔ a = none ∧ b = none := by cases a <;> cases b <;> simp [joinN]
theorem hbN_none {M : KVs} : ∀ (l : Nat) (n : Int), hbN M l n = none ↔ ∀ k, inB l n k → M k = none
  | 0, n => by
    rw [hbN, Option.map_eq_none_iff]
    constructor
    · intro h k hk; rw [(inB_zero n k).1 hk]; exact h
    · intro h; exact h n ((inB_zero n n).2 rfl)
  | l + 1, n => by
    rw [hbN, joinN_none, hbN_none l, hbN_none l]
    constructor
    · rintro ⟨h1, h2⟩ k hk
      rcases (inB_succ l n k).1 hk with hk | hk
      · exact h1 k hk
      · exact h2 k hk
    · intro h
      exact ⟨fun k hk => h k ((inB_succ l n k).2 (.inl hk)), fun k hk => h k ((inB_succ l n k).2 (.inr hk))⟩
/-- In which block of a level a key lies. -/
def atB (k : Int) (l : Nat) : Int := k / 2 ^ l
theorem inB_at (k : Int) (l : Nat) : inB l (atB k l) k := by
  unfold inB atB
  have hp := pow_pos2 l
  have h1 := Int.mul_ediv_add_emod k (2 ^ l)
  have h2 := Int.emod_nonneg k (show (2 : Int) ^ l ≠ 0 by omega)
  have h3 := Int.emod_lt_of_pos k hp
  have e : (k / 2 ^ l + 1) * 2 ^ l = 2 ^ l * (k / 2 ^ l) + 2 ^ l := by rw [Int.add_mul, Int.one_mul, Int.mul_comm]
  rw [e, Int.mul_comm (k / 2 ^ l)]
  omega
theorem inB_uniq {l : Nat} {n m k : Int} (h1 : inB l n k) (h2 : inB l m k) : n = m := by
  unfold inB at h1 h2
  have hp := pow_pos2 l
  have a1 : n * 2 ^ l < (m + 1) * 2 ^ l := by omega
  have a2 : m * 2 ^ l < (n + 1) * 2 ^ l := by omega
  have b1 := Int.lt_of_mul_lt_mul_right a1 (by omega)
  have b2 := Int.lt_of_mul_lt_mul_right a2 (by omega)
  omega
theorem atB_zero (k : Int) : atB k 0 = k := by simp [atB]
theorem atB_succ (k : Int) (l : Nat) : atB k (l + 1) = atB k l / 2 := by
  unfold atB
  rw [Int.pow_succ, Int.ediv_ediv_of_nonneg (by have := pow_pos2 l; omega)]
theorem hbN_put {M : KVs} {k : Int} (v : Option (List UInt8)) {l : Nat} {n : Int} (h : n ≠ atB k l) : hbN (fset M k v) l n = hbN M l n :=
  hbN_same l n fun j hj => by
    unfold fset
    rw [if_neg (fun e => h (by subst e; exact inB_uniq hj (inB_at _ l)))]
def hv (h : Nat) : Value := .int .u64 (h : Nat)
/-- The map of the hashes while level lv and those above it are still to be put right. -/
def hmP (M M' : KVs) (lv : Nat) : Nat × Int → Option Value := fun x => if x.1 ≤ 12 then (if x.1 < lv then hbN M' x.1 x.2 else hbN M x.1 x.2).map hv else none
def hmF (M : KVs) : Nat × Int → Option Value := fun x => if x.1 ≤ 12 then (hbN M x.1 x.2).map hv else none
theorem hmP_zero (M M' : KVs) : hmP M M' 0 = hmF M := by funext x; simp [hmP, hmF]
theorem hmP_end (M M' : KVs) : hmP M M' 13 = hmF M' := by
  funext x
  unfold hmP hmF
  split
  · rw [if_pos (by omega)]
  · rfl
theorem hmP_step (M : KVs) (k : Int) (v : Option (List UInt8)) (lv : Nat) (hl : lv ≤ 12) :
    gset (hmP M (fset M k v) lv) (lv, atB k lv) ((hbN (fset M k v) lv (atB k lv)).map hv) = hmP M (fset M k v) (lv + 1) := by
  funext ⟨l, n⟩
  by_cases e : (l, n) = (lv, atB k lv)
  · obtain ⟨rfl, rfl⟩ := Prod.mk.inj e
    rw [gset_same, hmP, if_pos hl, if_pos (Nat.lt_succ_self _)]
  · rw [gset_other _ _ e, hmP, hmP]
    dsimp only
    split
    · by_cases h1 : l < lv
      · rw [if_pos h1, if_pos (by omega)]
      · by_cases h2 : l < lv + 1
        · obtain rfl : l = lv := by omega
          rw [if_neg h1, if_pos h2, hbN_put v (fun h => e (by rw [h]))]
        · rw [if_neg h1, if_neg h2]
    · rfl
theorem hmP_at (M M' : KVs) (lv l : Nat) (n : Int) (hl : l ≤ 12) : hmP M M' lv (l, n) = (if l < lv then hbN M' l n else hbN M l n).map hv := by
  rw [hmP]; dsimp only; rw [if_pos hl]
/-! ### outside of a range -/
def bFirst (x : Nat × Int) : Int := x.2 * 2 ^ x.1
def bLast (x : Nat × Int) : Int := (x.2 + 1) * 2 ^ x.1 - 1
def outL (a b : Int) : Nat → Int → List (Nat × Int)
  | 0, n => if bLast (0, n) < a ∨ b < bFirst (0, n) then [(0, n)] else []
  | l + 1, n => if bLast (l + 1, n) < a ∨ b < bFirst (l + 1, n) then [(l + 1, n)] else if a ≤ bFirst (l + 1, n) ∧ bLast (l + 1, n) ≤ b then [] else outL a b l (2 * n) ++ outL a b l (2 * n + 1)
theorem outL_out {a b : Int} {l : Nat} {n : Int} (h : bLast (l, n) < a ∨ b < bFirst (l, n)) : outL a b l n = [(l, n)] := by
  cases l <;> rw [outL, if_pos h]
theorem outL_in {a b : Int} {l : Nat} {n : Int} (h : ¬ (bLast (l, n) < a ∨ b < bFirst (l, n))) (h2 : a ≤ bFirst (l, n) ∧ bLast (l, n) ≤ b) : outL a b l n = [] := by
  cases l
  · rw [outL, if_neg h]
  · rw [outL, if_neg h, if_pos h2]
theorem outL_halves {a b : Int} {l : Nat} {n : Int} (h : ¬ (bLast (l + 1, n) < a ∨ b < bFirst (l + 1, n))) (h2 : ¬ (a ≤ bFirst (l + 1, n) ∧ bLast (l + 1, n) ≤ b)) : outL a b (l + 1) n = outL a b l (2 * n) ++ outL a b l (2 * n + 1) := by
  rw [outL, if_neg h, if_neg h2]
theorem bzero {a b n : Int} (h : ¬ (bLast (0, n) < a ∨ b < bFirst (0, n))) : a ≤ bFirst (0, n) ∧ bLast (0, n) ≤ b := by
  unfold bLast bFirst at *
  simp at *
  omega
theorem outL_length (a b : Int) : ∀ (l : Nat) (n : Int), (outL a b l n).length ≤ 2 ^ l
  | 0, n => by rw [outL]; split <;> simp
  | l + 1, n => by
    have h1 := outL_length a b l (2 * n)
    have h2 := outL_length a b l (2 * n + 1)
    have hp : 0 < 2 ^ l := Nat.pow_pos (by decide)
    rw [outL]
    split
    · simp only [List.length_singleton, Nat.pow_succ]; omega
    · split
      · simp
      · rw [List.length_append, Nat.pow_succ]; omega
/-- The blocks of the tree. -/
def inT (l : Nat) (n : Int) : Prop := l ≤ 12 ∧ 0 ≤ n ∧ (n + 1) * 2 ^ l ≤ 4096
theorem inT_top : inT 12 0 := ⟨by omega, by omega, by decide⟩
theorem inT_half {l : Nat} {n : Int} (h : inT (l + 1) n) : inT l (2 * n) ∧ inT l (2 * n + 1) := by
  obtain ⟨h1, h2, h3⟩ := h
  have e2 : (n + 1) * 2 ^ (l + 1) = (2 * n + 1 + 1) * 2 ^ l := by rw [Int.pow_succ, Int.mul_comm (2 ^ l) 2, ← Int.mul_assoc]; congr 1; omega
  have hp := pow_pos2 l
  rw [e2] at h3
  have e3 : (2 * n + 1 + 1) * 2 ^ l = (2 * n + 1) * 2 ^ l + 2 ^ l := by rw [Int.add_mul, Int.one_mul]
  exact ⟨⟨by omega, by omega, by omega⟩, by omega, by omega, h3⟩
theorem inT_bounds {l : Nat} {n : Int} (h : inT l n) : l ≤ 12 ∧ 0 ≤ n ∧ n ≤ 4095 ∧ 0 ≤ bFirst (l, n) ∧ bFirst (l, n) ≤ bLast (l, n) ∧ bLast (l, n) ≤ 4095 := by
  obtain ⟨h1, h2, h3⟩ := h
  have hp := pow_pos2 l
  have e3 : (n + 1) * 2 ^ l = n * 2 ^ l + 2 ^ l := by rw [Int.add_mul, Int.one_mul]
  have h4 : 0 ≤ n * 2 ^ l := Int.mul_nonneg h2 (by omega)
  have h5 : n ≤ n * 2 ^ l := by
    have := Int.mul_le_mul_of_nonneg_left (show (1 : Int) ≤ 2 ^ l by omega) h2
    omega
  unfold bFirst bLast
  dsimp only
  refine ⟨h1, h2, ?_, h4, ?_, ?_⟩ <;> omega
theorem outL_inT (a b : Int) : ∀ (l : Nat) (n : Int), inT l n → ∀ x ∈ outL a b l n, inT x.1 x.2
  | 0, n, h, x, hx => by
    rw [outL] at hx
    split at hx
    · rw [List.mem_singleton.1 hx]; exact h
    · cases hx
  | l + 1, n, h, x, hx => by
    rw [outL] at hx
    split at hx
    · rw [List.mem_singleton.1 hx]; exact h
    · split at hx
      · cases hx
      · rcases List.mem_append.1 hx with hx | hx
        · exact outL_inT a b l _ (inT_half h).1 x hx
        · exact outL_inT a b l _ (inT_half h).2 x hx
end PA
/- The reference's map in plain: pairs in increasing order of their keys. -/
namespace PA
open Go
abbrev PrL := List (Int × List UInt8)
def lkP : PrL → Int → Option (List UInt8)
  | [], _ => none
  | x :: l, k => if k = x.1 then some x.2 else lkP l k
def fndP : PrL → Int → Nat
  | [], _ => 0
  | x :: l, k => if x.1 < k then fndP l k + 1 else 0
def AscP (L : PrL) : Prop := (L.map (·.1)).Pairwise (· < ·)
/-- Is the key there? -/
def hasP (L : PrL) (k : Int) : Bool := if h : fndP L k < L.length then decide (L[fndP L k].1 = k) else false
def setP (L : PrL) (k : Int) (v : List UInt8) : PrL := L.take (fndP L k) ++ (k, v) :: L.drop (if hasP L k = true then fndP L k + 1 else fndP L k)
theorem fndP_le : ∀ (L : PrL) (k : Int), fndP L k ≤ L.length
  | [], _ => Nat.le_refl _
  | x :: l, k => by
    unfold fndP
    split
    · have := fndP_le l k; simp; omega
    · simp
theorem fndP_lt : ∀ (L : PrL) (k : Int) (i : Nat) (hi : i < L.length), i < fndP L k → L[i].1 < k
  | [], _, _, hi, _ => by simp at hi
  | x :: l, k, i, hi, h => by
    unfold fndP at h
    split at h
    · rename_i hx
      cases i with
      | zero => exact hx
      | succ i => exact fndP_lt l k i (by simpa using hi) (by omega)
    · omega
theorem fndP_ge : ∀ (L : PrL) (k : Int) (h : fndP L k < L.length), ¬ L[fndP L k].1 < k
  | [], _, h => by simp at h
  | x :: l, k, h => by
    by_cases hx : x.1 < k
    · have e : fndP (x :: l) k = fndP l k + 1 := by rw [fndP, if_pos hx]
      simp only [e, List.getElem_cons_succ]
      exact fndP_ge l k (by rw [e] at h; simpa using h)
    · have e : fndP (x :: l) k = 0 := by rw [fndP, if_neg hx]
      simp only [e, List.getElem_cons_zero]
      exact hx
theorem AscP.cons {x : Int × List UInt8} {l : PrL} (h : AscP (x :: l)) : (∀ y ∈ l, x.1 < y.1) ∧ AscP l := by
  have := List.pairwise_cons.1 h
  exact ⟨fun y hy => this.1 _ (List.mem_map.2 ⟨y, hy, rfl⟩), this.2⟩
theorem lkP_none : ∀ {L : PrL} {k : Int}, (∀ x ∈ L, x.1 ≠ k) → lkP L k = none
  | [], _, _ => rfl
  | x :: l, k, h => by
    rw [lkP, if_neg (fun e => h x (by simp) e.symm)]
    exact lkP_none fun y hy => h y (by simp [hy])
theorem hasP_cons_lt {x : Int × List UInt8} {l : PrL} {k : Int} (h : x.1 < k) : hasP (x :: l) k = hasP l k := by
  have e : fndP (x :: l) k = fndP l k + 1 := by rw [fndP, if_pos h]
  unfold hasP
  simp only [e, List.length_cons, Nat.add_lt_add_iff_right, List.getElem_cons_succ]
theorem hasP_cons_ge {x : Int × List UInt8} {l : PrL} {k : Int} (h : ¬ x.1 < k) : hasP (x :: l) k = decide (x.1 = k) := by
  have e : fndP (x :: l) k = 0 := by rw [fndP, if_neg h]
  unfold hasP
  simp only [e, List.length_cons, Nat.zero_lt_succ, dite_true, List.getElem_cons_zero]
theorem setP_cons_lt {x : Int × List UInt8} {l : PrL} {k : Int} (v : List UInt8) (h : x.1 < k) : setP (x :: l) k v = x :: setP l k v := by
  have e : fndP (x :: l) k = fndP l k + 1 := by rw [fndP, if_pos h]
  unfold setP
  rw [hasP_cons_lt h, e]
  split <;> simp
theorem setP_cons_ge {x : Int × List UInt8} {l : PrL} {k : Int} (v : List UInt8) (h : ¬ x.1 < k) : setP (x :: l) k v = if x.1 = k then (k, v) :: l else (k, v) :: x :: l := by
  have e : fndP (x :: l) k = 0 := by rw [fndP, if_neg h]
  unfold setP
  rw [hasP_cons_ge h, e]
  by_cases hx : x.1 = k
  · simp [hx]
  · simp [hx]
theorem hasP_lk : ∀ {L : PrL}, AscP L → ∀ k, hasP L k = (lkP L k).isSome
  | [], _, k => by simp [hasP, lkP]
  | x :: l, h, k => by
    by_cases hx : x.1 < k
    · rw [hasP_cons_lt hx, hasP_lk h.cons.2 k, lkP, if_neg (by omega)]
    · rw [hasP_cons_ge hx, lkP]
      by_cases hk : x.1 = k
      · rw [if_pos hk.symm]; simp [hk]
      · rw [if_neg (fun e => hk e.symm), lkP_none fun y hy => by have := h.cons.1 y hy; omega]; simp [hk]
theorem setP_lk (v : List UInt8) (k : Int) : ∀ {L : PrL}, AscP L → lkP (setP L k v) = fset (lkP L) k (some v)
  | [], _ => by funext j; simp [setP, fndP, lkP, fset]
  | x :: l, h => by
    by_cases hx : x.1 < k
    · rw [setP_cons_lt v hx]
      funext j
      have ih := congrFun (setP_lk v k h.cons.2) j
      simp only [lkP, ih, fset]
      by_cases hj : j = x.1
      · rw [if_pos hj, if_neg (by omega), if_pos hj]
      · rw [if_neg hj, if_neg hj]
    · rw [setP_cons_ge v hx]
      funext j
      split
      · rename_i he
        simp only [lkP, fset]
        by_cases hj : j = k
        · rw [if_pos hj, if_pos hj]
        · rw [if_neg hj, if_neg hj, if_neg (by omega)]
      · simp only [lkP, fset]
theorem setP_mem (v : List UInt8) (k : Int) {L : PrL} {y : Int × List UInt8} (h : y ∈ setP L k v) : y = (k, v) ∨ y ∈ L := by
  unfold setP at h
  rcases List.mem_append.1 h with h | h
  · exact .inr (List.mem_of_mem_take h)
  · rcases List.mem_cons.1 h with h | h
    · exact .inl h
    · exact .inr (List.mem_of_mem_drop h)
theorem setP_asc (v : List UInt8) (k : Int) : ∀ {L : PrL}, AscP L → AscP (setP L k v)
  | [], _ => by simp [setP, fndP, AscP]
  | x :: l, h => by
    by_cases hx : x.1 < k
    · rw [setP_cons_lt v hx]
      refine List.pairwise_cons.2 ⟨fun y hy => ?_, setP_asc v k h.cons.2⟩
      obtain ⟨z, hz, rfl⟩ := List.mem_map.1 hy
      rcases setP_mem v k hz with rfl | hz
      · exact hx
      · exact h.cons.1 z hz
    · rw [setP_cons_ge v hx]
      split
      · rename_i he
        refine List.pairwise_cons.2 ⟨fun y hy => ?_, h.cons.2⟩
        obtain ⟨z, hz, rfl⟩ := List.mem_map.1 hy
        have := h.cons.1 z hz
        dsimp only; omega
      · refine List.pairwise_cons.2 ⟨fun y hy => ?_, h⟩
        obtain ⟨z, hz, rfl⟩ := List.mem_map.1 hy
        dsimp only
        rcases List.mem_cons.1 hz with rfl | hz
        · omega
        · have := h.cons.1 z hz; omega
theorem setP_len (v : List UInt8) (k : Int) (L : PrL) : (setP L k v).length ≤ L.length + 1 := by
  have := fndP_le L k
  unfold setP
  simp only [List.length_append, List.length_cons, List.length_take, List.length_drop]
  split <;> omega
end PA
