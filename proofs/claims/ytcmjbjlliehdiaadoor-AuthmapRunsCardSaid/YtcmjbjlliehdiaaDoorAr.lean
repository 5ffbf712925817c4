/- What came in: rows of integers and of bytes, as known slices. -/
import Derived.Test.YtcmjbjlliehdiaaDoorKn
import Derived.Test.YtcmjbjlliehdiaaDoorUtil
namespace PA
open Go Go.RowKit
def wm (w : World) : Mem := fun b => w.heap[b]?
theorem Sat.startKn (W : World) : Sat W W (sep (kn (wm W)) emp) :=
  ⟨rfl, rfl, rfl, wm W, Mem.no, fun _ _ h => h, fun _ _ h => h, fun _ _ h => (by simp [Mem.no] at h), Mem.no, Mem.no, fun _ => .inl rfl, (Mem.un_no _).symm, ⟨rfl, Mem.le_refl _⟩, rfl⟩
theorem ints_rel {I : Mem} {v : Value} {ns : List Int} : (rInt.slice 1).rel I [v] ns ↔ ∃ a c, v = .slice a ns.length c ∧ Swf a ns.length c ∧ cellsAt a (ns.map iv) I := by
  constructor
  · rintro ⟨a, c, cells, h1, h2, h3, h4⟩
    cases h1
    rw [(rows_rInt _ _ _).1 h4] at h3
    exact ⟨a, c, rfl, h2, h3⟩
  · rintro ⟨a, c, rfl, h2, h3⟩
    exact ⟨a, c, _, rfl, h2, h3, (rows_rInt _ _ _).2 rfl⟩
theorem cellsAt_of {w : World} {x : Addr} {us : List Value} (h : ∀ j u, us[j]? = some u → w.cell? (x.add j) = some u) : cellsAt (some x) us (wm w) := by
  cases us with
  | nil => exact .inl rfl
  | cons u us =>
    right
    have h0 := h 0 u rfl
    have e0 : x.add 0 = x := rfl
    rw [e0] at h0
    obtain ⟨b, o, sp⟩ := x
    unfold World.cell? at h0
    dsimp only at h0
    cases hb : w.heap[b]? with
    | none => rw [hb] at h0; cases h0
    | some ob =>
      rw [hb] at h0
      cases ob with
      | cells c t f =>
        dsimp only at h0
        cases sp with
        | some q => simp at h0
        | none =>
          refine ⟨b, o, c, t, f, rfl, hb, fun i v hv => ?_⟩
          have hi := h i v hv
          have e : (⟨b, o, none⟩ : Addr).add i = ⟨b, o + i, none⟩ := by unfold Addr.add; split <;> simp_all
          rw [e] at hi
          unfold World.cell? at hi
          dsimp only at hi
          rw [hb] at hi
          simpa using hi
      | _ => cases h0
end PA
namespace Go.Proofs.YtcmjbjlliehdiaaDoor
open Go.RowKit PA
def I64' (n : Int) : Prop := -9223372036854775808 ≤ n ∧ n ≤ 9223372036854775807
/-- A row of integers that came in. -/
def IsArg (w : World) (a : Option Addr) (len cap : Nat) (zs : List Int) : Prop :=
  (a = none ∧ len = 0 ∧ cap = 0 ∧ zs = []) ∨
  ∃ x, a = some x ∧ len ≤ cap ∧ cap ≤ maxLen ∧ zs.length = cap ∧ (∀ i, i < zs.length → w.cell? (x.add i) = some (.int .i64 (zs.getD i 0))) ∧ ∀ n ∈ zs, (Lit.int .i64 n).wf = true
theorem argI {w : World} {a : Option Addr} {len cap : Nat} {zs : List Int} (h : IsArg w a len cap zs) :
    ∃ l : List Int, len = l.length ∧ (rInt.slice 1).rel (wm w) [.slice a len cap] l ∧ ∀ n ∈ l, I64' n := by
  rcases h with ⟨rfl, rfl, rfl, rfl⟩ | ⟨x, rfl, h1, h2, h3, h4, h5⟩
  · exact ⟨[], rfl, ints_rel.2 ⟨none, 0, rfl, ⟨Nat.le_refl _, Nat.zero_le _, fun _ => rfl⟩, .inl rfl⟩, fun n hn => by cases hn⟩
  · have hl : len = (zs.take len).length := by simp; omega
    refine ⟨zs.take len, hl, ints_rel.2 ⟨some x, cap, by rw [← hl], ⟨by rw [← hl]; exact h1, h2, fun e => by cases e⟩, cellsAt_of fun j u hu => ?_⟩, fun n hn => ?_⟩
    · rw [List.getElem?_map, List.getElem?_take] at hu
      split at hu
      · rename_i hj
        have hjz : j < zs.length := by omega
        rw [List.getElem?_eq_getElem hjz] at hu
        rw [h4 j hjz, ← hu, List.getD_eq_getElem?_getD, List.getElem?_eq_getElem hjz]
        rfl
      · cases hu
    · exact i64_of_wf (h5 n (List.mem_of_mem_take hn))
/-- A row of bytes that came in. -/
def IsArgB (w : World) (a : Option Addr) (len cap : Nat) (zs : List Int) : Prop :=
  (a = none ∧ len = 0 ∧ cap = 0 ∧ zs = []) ∨
  ∃ x, a = some x ∧ len ≤ cap ∧ cap ≤ maxLen ∧ zs.length = cap ∧ (∀ i, i < zs.length → w.cell? (x.add i) = some (.int .u8 (zs.getD i 0))) ∧ ∀ n ∈ zs, (Lit.int .u8 n).wf = true
theorem argB {w : World} {a : Option Addr} {len cap : Nat} {zs : List Int} (h : IsArgB w a len cap zs) :
    ∃ l : List UInt8, len = l.length ∧ rBytes.rel (wm w) [.slice a len cap] l := by
  rcases h with ⟨rfl, rfl, rfl, rfl⟩ | ⟨x, rfl, h1, h2, h3, h4, h5⟩
  · exact ⟨[], rfl, bytes_rel.2 ⟨none, 0, rfl, ⟨Nat.le_refl _, Nat.zero_le _, fun _ => rfl⟩, .inl rfl⟩⟩
  · have hl : len = ((zs.take len).map fun n => UInt8.ofNat n.toNat).length := by simp; omega
    refine ⟨_, hl, bytes_rel.2 ⟨some x, cap, by rw [← hl], ⟨by rw [← hl]; exact h1, h2, fun e => by cases e⟩, cellsAt_of fun j u hu => ?_⟩⟩
    rw [List.map_map, List.getElem?_map, List.getElem?_take] at hu
    split at hu
    · rename_i hj
      have hjz : j < zs.length := by omega
      rw [List.getElem?_eq_getElem hjz] at hu
      rw [h4 j hjz, ← hu]
      have hw := h5 zs[j] (List.getElem_mem hjz)
      have hb2 : 0 ≤ zs[j] ∧ zs[j] ≤ 255 := bounds_u8 hw
      have e1 : zs.getD j 0 = zs[j] := by rw [List.getD_eq_getElem?_getD, List.getElem?_eq_getElem hjz]; rfl
      rw [e1]
      show some (Value.int .u8 zs[j]) = some (Value.int .u8 ((UInt8.ofNat zs[j].toNat).toNat : Int))
      congr 2
      simp; omega
    · cases hu
end Go.Proofs.YtcmjbjlliehdiaaDoor
