/- A row of acts in memory, its places by a function; an insertion sort of acts. -/
import Derived.Test.YtfapiopnjllnnaaGreatDoorGTitleChainST3
import Derived.Test.YtfapiopnjllnnaaGreatDoorSm
namespace Go.Proofs.YtfapiopnjllnnaaGreatDoor
open Go.RowKit PA
def kA : Nat := 19
theorem sizeAct (w : World) : (Go.sizeOf 57).run Tryz.prog w = .ok kA w := by kernel_rfl
instance : Inhabited Ac := ⟨Ac.zero⟩
/-- Acts in block g: place k holds f k; tl: what lies behind them. -/
def arow (g N : Nat) (f : Nat → Ac) (tl : List Value) : Assn := blk g (.cells (acs ((List.range N).map f) ++ tl).toArray 57 (0, 0))
def setA (f : Nat → Ac) (i : Nat) (x : Ac) : Nat → Ac := fun k => if k = i then x else f k
section
variable {W w : World} {A : Assn} {g N : Nat} {f : Nat → Ac} {tl : List Value}
theorem arow_ld (h : Sat W w (sep (arow g N f tl) A)) (i : Nat) (hi : i < N) : Sem.run Tryz.prog (loadCellsFrom ⟨g, i * 19, none⟩ 0 kA #[]) w = .ok (f i).cells.toArray w := by
  have hl : (f i).cells.length = kA := rfl
  have := run_loadCells_list (P := Tryz.prog) w ⟨g, i * 19, none⟩ (f i).cells (fun j v hj => by
    have hjl : j < 19 := (List.getElem?_eq_some_iff.1 hj).1
    have e : (⟨g, i * 19, none⟩ : Addr).add j = ⟨g, i * 19 + j, none⟩ := by unfold Addr.add; split <;> simp_all
    rw [e, Sat.cell h]
    rw [List.getElem?_toArray]
    show (acs ((List.range N).map f) ++ tl)[i * 19 + j]? = some v
    rw [List.getElem?_append_left (by rw [acs_len]; simp; omega), acs_at _ i (by simpa using hi) j hjl]
    simpa using hj)
  rw [hl] at this
  exact this
theorem acs_set (xs : List Ac) (i : Nat) (hi : i < xs.length) (x : Ac) : acs (xs.set i x) = (acs xs).take (i * 19) ++ x.cells ++ (acs xs).drop (i * 19 + 19) := by
  have e1 : acs (xs.take i) = (acs xs).take (i * 19) := by
    have h := acs_append (xs.take i) (xs.drop i)
    rw [List.take_append_drop] at h
    have hl : (acs (xs.take i)).length = i * 19 := by rw [acs_len, List.length_take]; omega
    rw [h, ← hl, List.take_left]
  have e2 : acs (xs.drop (i + 1)) = (acs xs).drop (i * 19 + 19) := by
    have h := acs_append (xs.take (i + 1)) (xs.drop (i + 1))
    rw [List.take_append_drop] at h
    have hl : (acs (xs.take (i + 1))).length = i * 19 + 19 := by rw [acs_len, List.length_take]; omega
    rw [h, ← hl, List.drop_left]
  rw [List.set_eq_take_append_cons_drop, if_pos hi, acs_append, e1, ← e2]
  show _ ++ (x.cells ++ acs (xs.drop (i + 1))) = _
  rw [List.append_assoc]
theorem range_set (f : Nat → Ac) (N i : Nat) (x : Ac) : (List.range N).map (setA f i x) = ((List.range N).map f).set i x := by
  apply List.ext_getElem
  · simp
  · intro k h1 h2
    simp only [List.getElem_map, List.getElem_range, List.getElem_set, setA]
    by_cases e : k = i
    · subst e; simp
    · simp [e, Ne.symm e]
theorem arow_st (h : Sat W w (sep (arow g N f tl) A)) (i : Nat) (hi : i < N) (x : Ac) :
    ∃ w', Sem.run Tryz.prog (storeCells ⟨g, i * 19, none⟩ x.cells 0) w = .ok () w' ∧ Sat W w' (sep (arow g N (setA f i x) tl) A) := by
  have hl : (acs ((List.range N).map f)).length = N * 19 := by rw [acs_len]; simp
  have hst := run_storeCells_at Tryz.prog g (i * 19) 57 x.cells 0 (acs ((List.range N).map f) ++ tl).toArray w h.blk_heap (by show i * 19 + 0 + 19 ≤ _; simp [hl]; omega) (x.one)
  refine ⟨_, hst, ?_⟩
  have h2 := h.setRow (((acs ((List.range N).map f) ++ tl).toArray.toList.take (i * 19 + 0)) ++ x.cells ++ (acs ((List.range N).map f) ++ tl).toArray.toList.drop (i * 19 + 0 + x.cells.length)).toArray
  unfold arow
  rw [range_set, acs_set _ i (by simpa using hi)]
  have e : (acs ((List.range N).map f) ++ tl).toArray.toList.take (i * 19 + 0) ++ x.cells ++ (acs ((List.range N).map f) ++ tl).toArray.toList.drop (i * 19 + 0 + x.cells.length) = (acs ((List.range N).map f)).take (i * 19) ++ x.cells ++ (acs ((List.range N).map f)).drop (i * 19 + 19) ++ tl := by
    show (acs ((List.range N).map f) ++ tl).take (i * 19) ++ x.cells ++ (acs ((List.range N).map f) ++ tl).drop (i * 19 + 19) = _
    rw [List.take_append_of_le_length (by omega), List.drop_append_of_le_length (by omega), List.append_assoc, List.append_assoc, List.append_assoc]
  rw [e] at h2 ⊢
  exact h2
theorem swF_set (f : Nat → Ac) (i j : Nat) : setA (setA f i (f j)) j (f i) = swF f j i := by
  funext k
  unfold setA swF
  rfl
end
end Go.Proofs.YtfapiopnjllnnaaGreatDoor
