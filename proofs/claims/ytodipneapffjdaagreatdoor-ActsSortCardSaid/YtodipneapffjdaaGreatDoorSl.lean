/- Slices in the small separation logic: rows that no longer change, rows that are owned; append. Plain Lean, no program in sight. -/
import Derived.Test.YtodipneapffjdaaGreatDoorSep
namespace PA
open Go Go.RowKit

/-- The cells at a: they lie in a block that no longer changes. -/
def cellsAt (a : Option Addr) (xs : List Value) (I : Mem) : Prop :=
  xs = [] ∨ ∃ b o cs t f, a = some ⟨b, o, none⟩ ∧ I b = some (.cells cs t f) ∧ ∀ i u, xs[i]? = some u → cs[o + i]? = some u
def rsl (a : Option Addr) (xs : List Value) : Assn := pers (cellsAt a xs) fun I J hl h => by
  rcases h with h | ⟨b, o, cs, t, f, h1, h2, h3⟩
  · exact .inl h
  · exact .inr ⟨b, o, cs, t, f, h1, hl _ _ h2, h3⟩
theorem Sat.rsl_nil {W w : World} {A : Assn} (h : Sat W w A) (a : Option Addr) : Sat W w (sep (rsl a []) A) := by
  obtain ⟨h1, h2, h3, I, m, h4, h5, h6, h7⟩ := h
  exact ⟨h1, h2, h3, I, m, h4, h5, h6, Mem.no, m, fun _ => .inl rfl, (Mem.un_no _).symm, ⟨rfl, .inl rfl⟩, h7⟩
theorem Sat.rsl_at {W w : World} {A : Assn} {a : Option Addr} {xs : List Value} (h : Sat W w (sep (rsl a xs) A)) (hne : xs ≠ []) :
    ∃ b o, a = some ⟨b, o, none⟩ ∧ ∀ i u, xs[i]? = some u → w.cell? ⟨b, o + i, none⟩ = some u := by
  rcases h.pers_heap with h | ⟨b, o, cs, t, f, h1, h2, h3⟩
  · exact absurd h hne
  · exact ⟨b, o, h1, fun i u hu => by rw [cell_of_row w b (o + i) cs t f h2]; exact h3 i u hu⟩
/-- What a call of the kit's wants of a source. -/
theorem Sat.rsl_src {W w : World} {A : Assn} {b : Addr} {xs : List Value} (h : Sat W w (sep (rsl (some b) xs) A)) : ∀ i u, xs[i]? = some u → w.cell? (b.add i) = some u := by
  intro i u hu
  obtain ⟨c, o, e, hc⟩ := h.rsl_at (fun e => by rw [e] at hu; simp at hu)
  cases e
  have := hc i u hu
  unfold Addr.add
  split
  · rename_i e; subst e; simpa using this
  · exact this

/-- A row that is owned: E: the elements' type; k: cells an element; the value is '.slice a n c'. -/
def osl (E k : Nat) (a : Option Addr) (n c : Nat) (xs : List Value) : Assn :=
  ex fun s : Option (Nat × Array Value) => match s with
    | none => fact (a = none ∧ n = 0 ∧ c = 0 ∧ xs = [])
    | some (g, cur) => sep (fact (a = some ⟨g, 0, none⟩ ∧ xs.length = n * k ∧ n ≤ c ∧ c ≤ maxLen ∧ cur.size = c * k ∧ cur.toList.take (n * k) = xs)) (blk g (.cells cur E (0, 0)))

section
variable {W w : World} {A : Assn} {E k : Nat} {a : Option Addr} {n c : Nat} {xs : List Value}
theorem Sat.osl_cases (h : Sat W w (sep (osl E k a n c xs) A)) :
    (a = none ∧ n = 0 ∧ c = 0 ∧ xs = [] ∧ Sat W w A) ∨
    ∃ g cur, a = some ⟨g, 0, none⟩ ∧ xs.length = n * k ∧ n ≤ c ∧ c ≤ maxLen ∧ cur.size = c * k ∧ cur.toList.take (n * k) = xs ∧ Sat W w (sep (blk g (.cells cur E (0, 0))) A) := by
  rw [osl, ex_sep, Sat.ex] at h
  obtain ⟨s, h⟩ := h
  cases s with
  | none =>
    have h' := Sat.fact.1 h
    exact .inl ⟨h'.1.1, h'.1.2.1, h'.1.2.2.1, h'.1.2.2.2, h'.2⟩
  | some s =>
    obtain ⟨g, cur⟩ := s
    simp only [sep_assoc] at h
    obtain ⟨⟨h1, h2, h3, h4, h5, h6⟩, h7⟩ := Sat.fact.1 h
    exact .inr ⟨g, cur, h1, h2, h3, h4, h5, h6, h7⟩
theorem Sat.osl_nil (h : Sat W w A) (E k : Nat) : Sat W w (sep (osl E k none 0 0 []) A) := by
  rw [osl, ex_sep, Sat.ex]
  exact ⟨none, Sat.fact.2 ⟨⟨rfl, rfl, rfl, rfl⟩, h⟩⟩
theorem Sat.osl_mk {g : Nat} {cur : Array Value} (h : Sat W w (sep (blk g (.cells cur E (0, 0))) A)) (n c k : Nat) (xs : List Value) (h2 : xs.length = n * k) (h3 : n ≤ c) (h4 : c ≤ maxLen) (h5 : cur.size = c * k) (h6 : cur.toList.take (n * k) = xs) :
    Sat W w (sep (osl E k (some ⟨g, 0, none⟩) n c xs) A) := by
  rw [osl, ex_sep, Sat.ex]
  refine ⟨some (g, cur), ?_⟩
  rw [sep_assoc]
  exact Sat.fact.2 ⟨⟨rfl, h2, h3, h4, h5, h6⟩, h⟩
theorem Sat.osl_len (h : Sat W w (sep (osl E k a n c xs) A)) : xs.length = n * k ∧ n ≤ c ∧ c ≤ maxLen := by
  rcases h.osl_cases with ⟨_, rfl, rfl, rfl, _⟩ | ⟨g, cur, _, h1, h2, h3, _⟩
  · simp
  · exact ⟨h1, h2, h3⟩
/-- A cell of an owned row. -/
theorem Sat.osl_at (h : Sat W w (sep (osl E k a n c xs) A)) (hne : xs ≠ []) :
    ∃ g, a = some ⟨g, 0, none⟩ ∧ ∀ i u, xs[i]? = some u → w.cell? ⟨g, i, none⟩ = some u := by
  rcases h.osl_cases with ⟨_, rfl, rfl, rfl, _⟩ | ⟨g, cur, rfl, h1, h2, h3, h4, h5, h6⟩
  · exact absurd rfl hne
  · refine ⟨g, rfl, fun i u hu => ?_⟩
    rw [h6.cell i]
    rw [← h5, List.getElem?_take] at hu
    split at hu
    · simpa using hu
    · cases hu
/-- Given up: it no longer changes. -/
theorem Sat.osl_settle (h : Sat W w (sep (osl E k a n c xs) A)) : Sat W w (sep (rsl a xs) A) := by
  rcases h.osl_cases with ⟨rfl, rfl, rfl, rfl, h'⟩ | ⟨g, cur, rfl, h1, h2, h3, h4, h5, h6⟩
  · exact h'.rsl_nil _
  · refine h6.settle.wk ?_
    rintro I m ⟨x, y, h7, h8, ⟨h9, h10⟩, h11⟩
    refine ⟨x, y, h7, h8, ⟨h9, .inr ⟨g, 0, cur, E, (0, 0), rfl, h10, fun i u hu => ?_⟩⟩, h11⟩
    rw [← h5, List.getElem?_take] at hu
    split at hu
    · simpa using hu
    · cases hu
theorem Sat.forget_osl (h : Sat W w (sep (osl E k a n c xs) A)) : Sat W w A := h.osl_settle.tail
end

section
variable {P : Program} {W w : World} {A : Assn}
theorem heap_setRow_other (w : World) (g j : Nat) (cs : Array Value) (h : j ≠ g) : (w.setRow g cs).heap[j]? = w.heap[j]? := by
  simp only [World.setRow, Array.getElem?_modify]
  rw [if_neg (fun e => h e.symm)]
theorem Sat.setRow {g : Nat} {cur : Array Value} {t : TypeId} (h : Sat W w (sep (blk g (.cells cur t (0, 0))) A)) (cs : Array Value) : Sat W (w.setRow g cs) (sep (blk g (.cells cs t (0, 0))) A) :=
  h.change rfl rfl rfl (setRow_heap w g cur cs t (0, 0) h.blk_heap) fun k hk _ => heap_setRow_other w g k cs hk

theorem size_zeroCells' (z : Array Value) (n : Nat) : (Builtin.zeroCells z n).size = n * z.size := by simp [Builtin.zeroCells]
theorem grownCap_ok (w : World) (need old : Nat) (e : TypeId) (h : need ≤ maxLen) : need ≤ grownCap w need old e ∧ grownCap w need old e ≤ maxLen :=
  ⟨grownCap_ge w need old e, grownCap_le_maxLen w need old e h⟩

/-- 'append' onto an owned row, whatever is appended. -/
theorem run_append_osl (t ty E k by_ : Nat) (i : TypeInfo) (z : Value) (ht : P.underlying t = some (.slice E)) (hi : P.info? E = some i) (hz : i.zero = some z)
    (hk : i.size = k) (hb : i.bytes = by_) (hzs : z.cells.size = k) {a : Option Addr} {n c : Nat} {xs : List Value} (h : Sat W w (sep (osl E k a n c xs) A))
    (x : Option Addr) (m cc : Nat) (news : List Value) (hl : news.length = m * k) (hx0 : x = none → m = 0) (hx : ∀ b, x = some b → ∀ j u, news[j]? = some u → w.cell? (b.add j) = some u)
    (h1 : ∀ u ∈ news, u.oneCell' = true) (h63 : n + m ≤ maxLen) (hby : (n + m) * by_ ≤ 140737488355328) :
    ∃ a' c' w', (Builtin.append_ #[t, t] ty #[.slice a n c, .slice x m cc]).run P w = .ok (.slice a' (n + m) c') w' ∧ Sat W w' (sep (osl E k a' (n + m) c' (xs ++ news)) A) := by
  subst hk
  subst hb
  have hsmall : n + m ≤ 9223372036854775807 := by simp only [maxLen] at h63; omega
  by_cases hm : m = 0
  · subst hm
    have hnews : news = [] := List.eq_nil_of_length_eq_zero (by simpa using hl)
    subst hnews
    have hnc := h.osl_len.2.1
    refine ⟨a, c, w, ?_, by simpa using h⟩
    cases x <;> cases a <;> simp [Builtin.append_, run_underlying ht, Go.sizeOf, typeInfo, hi, Builtin.lenOf, hnc, Builtin.firstCells, loadCells, loadCellsFrom, storeCells]
  · obtain ⟨b, rfl⟩ : ∃ b, x = some b := by
      cases x with
      | none => exact absurd (hx0 rfl) hm
      | some b => exact ⟨b, rfl⟩
    have hsrc := hx b rfl
    have fits : ∀ old, old < n + m → Builtin.nextslicecap (n + m) old * i.bytes ≤ 281474976710656 := fun old ho => growslice_fits ho hby
    rcases h.osl_cases with ⟨rfl, rfl, rfl, rfl, h0⟩ | ⟨g, cur, rfl, hlen, hnc, hcm, hcs, htake, hS⟩
    · have hrun := run_append_nil (P := P) w t ty E i z ht hi hz b m cc news hl hsrc (by omega) (by omega) (by have := fits 0 (by omega); rw [Nat.zero_add, nextslicecap_zero (by omega)] at this; exact this)
      have hcap := grownCap_ok w m 0 E (by omega)
      refine ⟨_, _, _, by rw [Nat.zero_add]; exact hrun, ?_⟩
      refine ((h0.drew.alloc _).osl_mk (0 + m) _ i.size ([] ++ news) (by simpa using hl) (by omega) hcap.2 ?_ ?_)
      · simp only [Array.size_append, List.size_toArray, size_zeroCells', hzs, hl]
        rw [← Nat.add_mul]; congr 1; omega
      · simp [← hl]
    · by_cases hroom : n + m ≤ c
      · have hfit : n * i.size + news.length ≤ cur.size := by rw [hl, hcs, ← Nat.add_mul]; exact Nat.mul_le_mul_right _ hroom
        have hrun := run_append_room (P := P) w t ty E i ht hi g n c cur hS.blk_heap b m cc news hl hsrc h1 hroom hfit
        refine ⟨_, _, _, hrun, (hS.setRow _).osl_mk (n + m) c i.size (xs ++ news) (by rw [List.length_append, hlen, hl, Nat.add_mul]) hroom hcm ?_ ?_⟩
        · have : n * i.size ≤ cur.size := by omega
          simp only [List.size_toArray, List.length_append, List.length_take, List.length_drop, Array.length_toList]
          rw [← hcs]; omega
        · rw [htake, List.take_append_of_le_length (by rw [List.length_append, hlen, hl, Nat.add_mul]; omega), List.take_of_length_le (by rw [List.length_append, hlen, hl, Nat.add_mul]; omega)]
      · have hrun := run_append_grow (P := P) w t ty E i z ht hi hz ⟨g, 0, none⟩ n c xs hlen (fun j u hu => by
            obtain ⟨g', e, hc⟩ := h.osl_at (fun e => by rw [e] at hu; simp at hu)
            cases e
            have := hc j u hu
            unfold Addr.add
            split
            · rename_i e; subst e; exact this
            · simpa using this) b m cc news hl hsrc (by omega) (by omega) (fits c (by omega))
        have hcap := grownCap_ok w (n + m) c E h63
        refine ⟨_, _, _, hrun, ((hS.forget.drew).alloc _).osl_mk (n + m) _ i.size (xs ++ news) (by rw [List.length_append, hlen, hl, Nat.add_mul]) hcap.1 hcap.2 ?_ ?_⟩
        · simp only [Array.size_append, List.size_toArray, size_zeroCells', hzs, hl, hlen]
          rw [← Nat.add_mul, ← Nat.add_mul]; congr 1; omega
        · have : xs.length + news.length = (n + m) * i.size := by rw [hlen, hl, Nat.add_mul]
          rw [← this, ← List.length_append]; simp only [Array.toList_append, List.append_toArray, List.take_left]
theorem wp_of_run {o : Oper} {a : Act} {w w' : World} {K : Act → World → Prop} {Q : Exit → Act → World → Prop} {v : Value} (h : (execOp a.eval o).run P w = .ok (.value v) w') (hK : K (a.put o.dst v) w') : o.wp P a w K Q := by
  simp only [Oper.wp, h, Oper.upon]; exact hK
theorem exec_append {a : Act} {o : Oper} (s x : Operand) (t t2 : TypeId) (ho : o.op = .call { callee := .builtin .append, args := #[s, x], argTypes := #[t, t2] }) {v : Value} {w' : World}
    (hr : (Builtin.append_ #[t, t2] o.type #[a.eval s, a.eval x]).run P w = .ok v w') : (execOp a.eval o).run P w = .ok (.value v) w' := by
  simp [execOp, ho, resolve, invoke, builtin, hr]
theorem wp_append_osl {o : Oper} {ac : Act} {K : Act → World → Prop} {Q : Exit → Act → World → Prop} (s y : Operand) (t : TypeId)
    (ho : o.op = .call { callee := .builtin .append, args := #[s, y], argTypes := #[t, t] })
    (E k by_ : Nat) (z : Value) (ht : P.underlying t = some (.slice E)) (hi : (P.info? E).map (fun i => (i.zero, i.size, i.bytes)) = some (some z, k, by_)) (hzs : z.cells.size = k)
    {a : Option Addr} {n c : Nat} {xs : List Value} (hs : ac.eval s = .slice a n c) (h : Sat W w (sep (osl E k a n c xs) A))
    {x : Option Addr} {m cc : Nat} (hy : ac.eval y = .slice x m cc) (news : List Value) (hl : news.length = m * k) (hx0 : x = none → m = 0) (hx : ∀ b, x = some b → ∀ j u, news[j]? = some u → w.cell? (b.add j) = some u)
    (h1 : ∀ u ∈ news, u.oneCell' = true) (hby : (n + m) * by_ ≤ 140737488355328) (h63 : n + m ≤ maxLen)
    (hK : ∀ a' c' w', Sat W w' (sep (osl E k a' (n + m) c' (xs ++ news)) A) → K (ac.put o.dst (.slice a' (n + m) c')) w') : o.wp P ac w K Q := by
  obtain ⟨i, hi1, hi2, hi3, hi4⟩ := info_parts hi
  obtain ⟨a', c', w', hr, hS⟩ := run_append_osl t o.type E k by_ i z ht hi1 hi2 hi3 hi4 hzs h x m cc news hl hx0 hx h1 h63 hby
  exact wp_of_run (exec_append s y t t ho (by rw [hs, hy]; exact hr)) (hK _ _ _ hS)
theorem wpl_append_osl {ops : Array Oper} {rest : List Oper} {o : Oper} {ac : Act} {Q : Exit → Act → World → Prop} (hgd : o.guard = none) (s y : Operand) (t : TypeId)
    (ho : o.op = .call { callee := .builtin .append, args := #[s, y], argTypes := #[t, t] })
    (E k by_ : Nat) (z : Value) (ht : P.underlying t = some (.slice E)) (hi : (P.info? E).map (fun i => (i.zero, i.size, i.bytes)) = some (some z, k, by_)) (hzs : z.cells.size = k)
    {a : Option Addr} {n c : Nat} {xs : List Value} (hs : ac.eval s = .slice a n c) (h : Sat W w (sep (osl E k a n c xs) A))
    {x : Option Addr} {m cc : Nat} (hy : ac.eval y = .slice x m cc) (news : List Value) (hl : news.length = m * k) (hx0 : x = none → m = 0) (hx : ∀ b, x = some b → ∀ j u, news[j]? = some u → w.cell? (b.add j) = some u)
    (h1 : ∀ u ∈ news, u.oneCell' = true) (hby : (n + m) * by_ ≤ 140737488355328) (h63 : n + m ≤ maxLen)
    (hK : ∀ a' c' w', Sat W w' (sep (osl E k a' (n + m) c' (xs ++ news)) A) → wpList P ops Q rest (ac.put o.dst (.slice a' (n + m) c')) w') : wpList P ops Q (o :: rest) ac w :=
  wpList_plain hgd fun _ hk => wp_append_osl s y t ho E k by_ z ht hi hzs hs h hy news hl hx0 hx h1 hby h63 fun a' c' w' h' => hk _ _ (hK a' c' w' h')
end
end PA
