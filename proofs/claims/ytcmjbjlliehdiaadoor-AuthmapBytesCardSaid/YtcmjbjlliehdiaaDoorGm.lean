/- Owned maps whose keys are any comparable values (a struct of numbers, say), with stamps, and a range over such a map. Plain Lean, no program in sight. -/
import Derived.Test.YtcmjbjlliehdiaaDoorBm
import Derived.DeepKeys3
namespace PA
open Go Go.RowKit
/-- What is asked of a kind of keys: enc is how a key lies in memory. -/
structure GKey (P : Program) (K : TypeId) {κ : Type} (enc : κ → Value) : Prop where
  inj : ∀ a b, enc a = enc b → a = b
  check : ∀ (w : World) (em : Bool) a, (Instr.checkKey em 10000 K (enc a)).run P w = .ok () w
  find : ∀ (w : World) a (es : List MapEntry), (∀ e ∈ es, ∃ k, e.key = enc k) →
    ((Instr.findKey K (enc a) es).run P w = .ok none w ∧ ∀ e ∈ es, e.key ≠ enc a) ∨ ∃ j e, (Instr.findKey K (enc a) es).run P w = .ok (some (j, e.val)) w ∧ es[j]? = some e ∧ e.key = enc a
  stays : ∀ (w : World) a, (Instr.keyThatStays (enc a) (enc a)).run P w = .ok (enc a) w
theorem GKey.of_law {P : Program} {K : TypeId} {κ : Type} {enc : κ → Value} (h : WideMaps.KeyLaw P K) (hi : ∀ a b, enc a = enc b → a = b) (hk : ∀ a, ∃ l, keyOf P K (enc a) = some l) : GKey P K enc := by
  refine ⟨hi, fun w em a => ?_, fun w a es he => ?_, fun w a => ?_⟩
  · obtain ⟨l, hl⟩ := hk a
    exact h.check w em hl
  · obtain ⟨l, hl⟩ := hk a
    exact h.find w hl es fun e h' => by
      obtain ⟨k, hke⟩ := he e h'
      obtain ⟨l', hl'⟩ := hk k
      exact ⟨l', by rw [hke]; exact hl'⟩
  · obtain ⟨l, hl⟩ := hk a
    exact h.stays w hl
section
variable {κ : Type} {enc : κ → Value}
structure GRep (enc : κ → Value) (es : List MapEntry) (f : κ → Option Value) : Prop where
  keys : ∀ e ∈ es, ∃ k, e.key = enc k
  nodup : es.Pairwise fun x y => x.key ≠ y.key
  get : ∀ k v, f k = some v ↔ ∃ e ∈ es, e.key = enc k ∧ e.val = v
theorem GRep.nil : GRep enc [] (fun _ => none) := ⟨fun _ h => (by cases h), .nil, fun _ _ => by simp⟩
theorem key_eq {es : List MapEntry} (hn : es.Pairwise fun x y => x.key ≠ y.key) {x y : MapEntry} (hx : x ∈ es) (hy : y ∈ es) (h : x.key = y.key) : x = y := by
  obtain ⟨i, hi, rfl⟩ := List.mem_iff_getElem.1 hx
  obtain ⟨j, hj, rfl⟩ := List.mem_iff_getElem.1 hy
  rcases Nat.lt_trichotomy i j with h' | rfl | h'
  · exact absurd h (List.pairwise_iff_getElem.1 hn i j hi hj h')
  · rfl
  · exact absurd h.symm (List.pairwise_iff_getElem.1 hn j i hj hi h')
theorem GRep.isNo {es : List MapEntry} {f : κ → Option Value} (h : GRep enc es f) {k : κ} (hk : ∀ e ∈ es, e.key ≠ enc k) : f k = none := by
  cases hf : f k with
  | none => rfl
  | some v => obtain ⟨e, he, h1, -⟩ := (h.get k v).1 hf; exact absurd h1 (hk e he)
theorem GRep.isSo {es : List MapEntry} {f : κ → Option Value} (h : GRep enc es f) {e : MapEntry} (he : e ∈ es) {k : κ} (hk : e.key = enc k) : f k = some e.val := (h.get k e.val).2 ⟨e, he, hk, rfl⟩
open Classical in
noncomputable def gset {α : Type} (f : κ → Option α) (k : κ) (v : Option α) : κ → Option α := fun x => if x = k then v else f x
theorem gset_same {α : Type} (f : κ → Option α) (k : κ) (v : Option α) : gset f k v k = v := if_pos rfl
theorem gset_other {α : Type} (f : κ → Option α) {k x : κ} (v : Option α) (h : x ≠ k) : gset f k v x = f x := if_neg h
theorem GRep.push (hi : ∀ a b, enc a = enc b → a = b) {es : List MapEntry} {f : κ → Option Value} (h : GRep enc es f) (k : κ) (v : Value) (c : Nat) (hk : ∀ e ∈ es, e.key ≠ enc k) : GRep enc (es ++ [{ key := enc k, val := v, born := c }]) (gset f k (some v)) := by
  refine ⟨fun e he => ?_, List.pairwise_append.2 ⟨h.nodup, by simp, fun x hx y hy => ?_⟩, fun x u => ?_⟩
  · rcases List.mem_append.1 he with he | he
    · exact h.keys e he
    · simp at he; subst he; exact ⟨k, rfl⟩
  · simp at hy; subst hy; exact hk x hx
  · by_cases e : x = k
    · subst e
      rw [gset_same]
      constructor
      · rintro ⟨⟩; exact ⟨{ key := enc x, val := v, born := c }, by simp, rfl, rfl⟩
      · rintro ⟨e, he, h1, rfl⟩
        rcases List.mem_append.1 he with he | he
        · exact absurd h1 (hk e he)
        · simp at he; subst he; rfl
    · rw [gset_other _ _ e, h.get]
      constructor
      · rintro ⟨y, hy, h1, h2⟩; exact ⟨y, by simp [hy], h1, h2⟩
      · rintro ⟨y, hy, h1, h2⟩
        rcases List.mem_append.1 hy with hy | hy
        · exact ⟨y, hy, h1, h2⟩
        · simp at hy; subst hy; exact absurd (hi _ _ h1).symm e
theorem GRep.erase (hi : ∀ a b, enc a = enc b → a = b) {es : List MapEntry} {f : κ → Option Value} (h : GRep enc es f) (k : κ) {j : Nat} {e : MapEntry} (hj : es[j]? = some e) (he : e.key = enc k) : GRep enc (es.eraseIdx j) (gset f k none) := by
  have hsub := List.eraseIdx_sublist es j
  obtain ⟨hj1, hj2⟩ := List.getElem?_eq_some_iff.1 hj
  have hno : ∀ x ∈ es.eraseIdx j, x.key ≠ enc k := fun x hx hxk => by
    obtain ⟨i, hne, hi⟩ := List.mem_eraseIdx_iff_getElem?.1 hx
    obtain ⟨hi1, hi2⟩ := List.getElem?_eq_some_iff.1 hi
    rcases Nat.lt_trichotomy i j with h3 | h3 | h3
    · exact List.pairwise_iff_getElem.1 h.nodup i j hi1 hj1 h3 (by rw [hi2, hj2, hxk, he])
    · exact hne h3
    · exact List.pairwise_iff_getElem.1 h.nodup j i hj1 hi1 h3 (by rw [hi2, hj2, hxk, he])
  refine ⟨fun x hx => h.keys x (hsub.mem hx), h.nodup.sublist hsub, fun x u => ?_⟩
  by_cases e' : x = k
  · subst e'
    rw [gset_same]
    constructor
    · rintro ⟨⟩
    · rintro ⟨y, hy, h1, -⟩; exact absurd h1 (hno y hy)
  · rw [gset_other _ _ e', h.get]
    constructor
    · rintro ⟨y, hy, h1, h2⟩
      refine ⟨y, ?_, h1, h2⟩
      obtain ⟨i, hi1, hi2⟩ := List.mem_iff_getElem.1 hy
      refine List.mem_eraseIdx_iff_getElem?.2 ⟨i, fun hij => ?_, by rw [List.getElem?_eq_getElem hi1, hi2]⟩
      subst hij
      rw [hj2] at hi2
      subst hi2
      exact e' (hi _ _ (h1.symm.trans he))
    · rintro ⟨y, hy, h1, h2⟩; exact ⟨y, hsub.mem hy, h1, h2⟩
theorem modify_keys {es : List MapEntry} {j : Nat} {e : MapEntry} {kv : Value} (hj : es[j]? = some e) (he : e.key = kv) (v : Value) : (es.modify j fun x => { x with key := kv, val := v }).map (·.key) = es.map (·.key) := by
  apply List.ext_getElem
  · simp
  · intro i h1 h2
    simp only [List.getElem_map, List.getElem_modify]
    split
    · rename_i hij; subst hij
      have := (List.getElem?_eq_some_iff.1 hj).2
      rw [this]; exact he.symm
    · rfl
theorem GRep.modify (hi : ∀ a b, enc a = enc b → a = b) {es : List MapEntry} {f : κ → Option Value} (h : GRep enc es f) (k : κ) (v : Value) {j : Nat} {e : MapEntry} (hj : es[j]? = some e) (he : e.key = enc k) :
    GRep enc (es.modify j fun x => { x with key := enc k, val := v }) (gset f k (some v)) := by
  have hks := modify_keys hj he v
  obtain ⟨hj1, hj2⟩ := List.getElem?_eq_some_iff.1 hj
  have hpw : ∀ {l : List MapEntry}, (l.Pairwise fun x y => x.key ≠ y.key) ↔ (l.map (·.key)).Pairwise (· ≠ ·) := fun {l} => (List.pairwise_map).symm
  have hmem : ∀ x, x ∈ (es.modify j fun x => { x with key := enc k, val := v }) ↔ (∃ i, ∃ hi : i < es.length, i ≠ j ∧ es[i] = x) ∨ x = { e with key := enc k, val := v } := by
    intro x
    rw [List.mem_iff_getElem]
    constructor
    · rintro ⟨i, hi, rfl⟩
      rw [List.length_modify] at hi
      rw [List.getElem_modify]
      split
      · rename_i hij; subst hij; right; rw [hj2]
      · rename_i hij; left; exact ⟨i, hi, fun e => hij e.symm, rfl⟩
    · rintro (⟨i, hi, hne, rfl⟩ | rfl)
      · exact ⟨i, by rw [List.length_modify]; exact hi, by rw [List.getElem_modify, if_neg (Ne.symm hne)]⟩
      · exact ⟨j, by rw [List.length_modify]; exact hj1, by rw [List.getElem_modify, if_pos rfl, hj2]⟩
  refine ⟨fun x hx => ?_, hpw.2 (by rw [hks]; exact hpw.1 h.nodup), fun x u => ?_⟩
  · rcases (hmem x).1 hx with ⟨i, hi, -, rfl⟩ | rfl
    · exact h.keys _ (List.getElem_mem hi)
    · exact ⟨k, rfl⟩
  · by_cases e' : x = k
    · subst e'
      rw [gset_same]
      constructor
      · rintro ⟨⟩; exact ⟨_, (hmem _).2 (.inr rfl), rfl, rfl⟩
      · rintro ⟨y, hy, h1, rfl⟩
        rcases (hmem y).1 hy with ⟨i, hi', hne, rfl⟩ | rfl
        · rcases Nat.lt_trichotomy i j with h3 | h3 | h3
          · exact absurd (by rw [h1, hj2, he]) (List.pairwise_iff_getElem.1 h.nodup i j hi' hj1 h3)
          · exact absurd h3 hne
          · exact absurd (by rw [h1, hj2, he]) (List.pairwise_iff_getElem.1 h.nodup j i hj1 hi' h3)
        · rfl
    · rw [gset_other _ _ e', h.get]
      constructor
      · rintro ⟨y, hy, h1, h2⟩
        obtain ⟨i, hi', rfl⟩ := List.mem_iff_getElem.1 hy
        refine ⟨_, (hmem _).2 (.inl ⟨i, hi', fun hij => ?_, rfl⟩), h1, h2⟩
        subst hij
        rw [hj2] at h1
        exact e' (hi _ _ (h1.symm.trans he))
      · rintro ⟨y, hy, h1, h2⟩
        rcases (hmem y).1 hy with ⟨i, hi', hne, rfl⟩ | rfl
        · exact ⟨_, List.getElem_mem hi', h1, h2⟩
        · exact absurd (hi _ _ h1).symm e'
def gmap (enc : κ → Value) (b : Nat) (f : κ → Option Value) (n : Nat) : Assn := ex fun s : Array MapEntry × Nat => sep (fact (GRep enc s.1.toList f ∧ s.1.size = n ∧ Born s.1.toList s.2)) (blk b (.map s.1 s.2))
variable {P : Program} {W w : World} {A : Assn}
theorem Sat.gmap_open {b : Nat} {f : κ → Option Value} {n : Nat} (h : Sat W w (sep (gmap enc b f n) A)) : ∃ es clock, GRep enc es.toList f ∧ es.size = n ∧ Born es.toList clock ∧ Sat W w (sep (blk b (.map es clock)) A) := by
  rw [gmap, ex_sep, Sat.ex] at h
  obtain ⟨⟨es, clock⟩, h⟩ := h
  rw [sep_assoc] at h
  have h' := Sat.fact.1 h
  exact ⟨es, clock, h'.1.1, h'.1.2.1, h'.1.2.2, h'.2⟩
theorem Sat.gmap_mk {b : Nat} {f : κ → Option Value} {n : Nat} {es : Array MapEntry} {clock : Nat} (h : Sat W w (sep (blk b (.map es clock)) A)) (h1 : GRep enc es.toList f) (h2 : es.size = n) (h3 : Born es.toList clock) : Sat W w (sep (gmap enc b f n) A) := by
  rw [gmap, ex_sep, Sat.ex]
  refine ⟨(es, clock), ?_⟩
  rw [sep_assoc]
  exact Sat.fact.2 ⟨⟨h1, h2, h3⟩, h⟩
theorem Sat.gmap_new (enc : κ → Value) (h : Sat W w A) : Sat W (w.alloc (.map #[] 0)) (sep (gmap enc w.heap.size (fun _ => none) 0) A) :=
  (h.alloc (.map #[] 0)).gmap_mk GRep.nil rfl (Born.nil 0)
theorem Sat.gmap_ext {b : Nat} {f g : κ → Option Value} {n : Nat} (h : Sat W w (sep (gmap enc b f n) A)) (e : ∀ k, f k = g k) : Sat W w (sep (gmap enc b g n) A) := by
  obtain rfl : f = g := funext e
  exact h
/-- 'm[k]', 'v, ok := m[k]'. -/
theorem run_lookup_gmap {T K E : TypeId} {z : Value} (hT : P.underlying T = some (.map K E)) (hK : GKey P K enc) (hz : ∀ w, (zeroValue E).run P w = .ok z w)
    {b : Nat} {f : κ → Option Value} {n : Nat} (h : Sat W w (sep (gmap enc b f n) A)) (k : κ) (ok : Bool) :
    (Instr.lookup T (.map (some b)) (enc k) ok).run P w = .ok (if ok then .tuple #[(f k).getD z, .bool (f k).isSome] else (f k).getD z) w := by
  obtain ⟨es, clock, h1, h2, -, h3⟩ := h.gmap_open
  have hg := run_getObj_map (P := P) h3.blk_heap
  rcases hK.find w k es.toList h1.keys with ⟨e1, e2⟩ | ⟨j, e, e1, e2, e3⟩
  · rw [h1.isNo e2]
    cases ok <;> simp [Instr.lookup, run_underlying hT, hg, hK.check, e1, hz]
  · rw [h1.isSo (List.mem_of_getElem? e2) e3]
    cases ok <;> simp [Instr.lookup, run_underlying hT, hg, hK.check, e1]
/-- 'm[k] = v', whether the key was there or not. -/
theorem run_update_gmap {T K E : TypeId} (hT : P.underlying T = some (.map K E)) (hK : GKey P K enc) {b : Nat} {f : κ → Option Value} {n : Nat} (h : Sat W w (sep (gmap enc b f n) A)) (k : κ) (v : Value) :
    ∃ w', (Instr.mapUpdate T (.map (some b)) (enc k) v).run P w = .ok () w' ∧ ∃ n', Sat W w' (sep (gmap enc b (gset f k (some v)) n') A) := by
  obtain ⟨es, clock, h1, h2, hb, h3⟩ := h.gmap_open
  have hg := run_getObj_map (P := P) h3.blk_heap
  rcases hK.find w k es.toList h1.keys with ⟨e1, e2⟩ | ⟨j, e, e1, e2, e3⟩
  · refine ⟨_, by simp [Instr.mapUpdate, run_underlying hT, hg, hK.check, e1, run_setObj_map (P := P) h3.blk_heap]; rfl, n + 1, (h3.setObj _).gmap_mk ?_ (by simp [h2]) ?_⟩
    · simpa using h1.push hK.inj k v clock e2
    · simpa using hb.push (enc k) v
  · have hkey : ((es[j]?.map (·.key)).getD (enc k)) = enc k := by
      have : es[j]? = some e := by simpa using e2
      simp [this, e3]
    refine ⟨_, by simp [Instr.mapUpdate, run_underlying hT, hg, hK.check, e1, hkey, hK.stays, run_setObj_map (P := P) h3.blk_heap]; rfl, n, (h3.setObj _).gmap_mk ?_ (by simp [h2]) ?_⟩
    · simpa using h1.modify hK.inj k v e2 e3
    · simpa using hb.modify j (enc k) v
/-- 'delete(m, k)'. -/
theorem run_delete_gmap {T K E ty : TypeId} {u : TypeId} (hT : P.underlying T = some (.map K E)) (hK : GKey P K enc) {b : Nat} {f : κ → Option Value} {n : Nat} (h : Sat W w (sep (gmap enc b f n) A)) (k : κ) :
    ∃ w', (Builtin.delete_ #[T, u] ty #[.map (some b), enc k]).run P w = .ok (.tuple #[]) w' ∧ ∃ n', Sat W w' (sep (gmap enc b (gset f k none) n') A) := by
  obtain ⟨es, clock, h1, h2, hb, h3⟩ := h.gmap_open
  have hg := run_getObj_map (P := P) h3.blk_heap
  rcases hK.find w k es.toList h1.keys with ⟨e1, e2⟩ | ⟨j, e, e1, e2, e3⟩
  · refine ⟨_, by simp [Builtin.delete_, run_underlying hT, hg, hK.check, e1, run_setObj_map (P := P) h3.blk_heap], n, ((h3.setObj _).gmap_mk h1 h2 hb).gmap_ext fun x => ?_⟩
    by_cases hx : x = k
    · subst hx; rw [gset_same, h1.isNo e2]
    · rw [gset_other _ _ hx]
  · have hj : j < es.size := by have := (List.getElem?_eq_some_iff.1 e2).1; simpa using this
    refine ⟨_, by simp [Builtin.delete_, run_underlying hT, hg, hK.check, e1, run_setObj_map (P := P) h3.blk_heap]; rfl, n - 1, (h3.setObj _).gmap_mk ?_ (by subst h2; simp [Array.eraseIdxIfInBounds, hj]) ?_⟩
    · simpa [Array.eraseIdxIfInBounds, hj] using h1.erase hK.inj k e2 e3
    · simpa [Array.eraseIdxIfInBounds, hj] using hb.erase j
end
/-- Blocks of keys: a level and a number. -/
def bkv (x : Nat × Int) : Value := .agg #[.int .i64 (x.1 : Nat), .int .i64 x.2]
theorem bkv_inj (a b : Nat × Int) (h : bkv a = bkv b) : a = b := by
  obtain ⟨a1, a2⟩ := a
  obtain ⟨b1, b2⟩ := b
  simp only [bkv, Value.agg.injEq, Array.mk.injEq, List.cons.injEq, Value.int.injEq, true_and, and_true] at h
  rw [show a1 = b1 by omega, h.2]
end PA
