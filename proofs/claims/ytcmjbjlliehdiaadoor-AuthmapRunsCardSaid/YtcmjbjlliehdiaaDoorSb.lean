/- A part of a slice, in one equation, for any program; where its cells lie. Plain Lean, no program in sight. -/
import Derived.Test.YtcmjbjlliehdiaaDoorKn
namespace PA
open Go Go.RowKit
/-- Where the elements from 'lo' on lie ('k' cells an element; 'd': nothing is left of the capacity). -/
def subA (a : Option Addr) (d : Prop) [Decidable d] (off : Nat) : Option Addr := if d then a else a.map (·.add off)
section
variable {P : Program} {t E : TypeId} {k : Nat}
theorem run_slice_pre (hT : P.underlying t = some (.slice E)) (hi : (P.info? E).map (·.size) = some k) (a : Option Addr) (n c j : Nat) (hj : j ≤ c) (w : World) :
    (Instr.slice t (.slice a n c) none (some (.int .i64 (j : Int))) none).run P w = .ok (.slice a j c) w := by
  obtain ⟨i, hi1, hi2⟩ : ∃ i, P.info? E = some i ∧ i.size = k := by
    cases hx : P.info? E with
    | none => rw [hx] at hi; cases hi
    | some i => rw [hx] at hi; simp at hi; exact ⟨i, rfl, hi⟩
  have hmap : Option.map (fun x => Addr.add x 0) a = a := by cases a <;> simp [Addr.add]
  simp [Instr.slice, Instr.sliceBounds, Instr.sliceBound, run_underlying hT, Go.sizeOf, typeInfo, hi1, hmap, asIntOf]
  intro h; omega
theorem run_slice_from (hT : P.underlying t = some (.slice E)) (hi : (P.info? E).map (·.size) = some k) (a : Option Addr) (n c i : Nat) (hi' : i ≤ n) (w : World) :
    (Instr.slice t (.slice a n c) (some (.int .i64 (i : Int))) none none).run P w = .ok (.slice (subA a (c = i) (i * k)) (n - i) (c - i)) w := by
  obtain ⟨ii, hi1, hi2⟩ : ∃ i, P.info? E = some i ∧ i.size = k := by
    cases hx : P.info? E with
    | none => rw [hx] at hi; cases hi
    | some i => rw [hx] at hi; simp at hi; exact ⟨i, rfl, hi⟩
  simp [Instr.slice, Instr.sliceBounds, Instr.sliceBound, run_underlying hT, Go.sizeOf, typeInfo, hi1, asIntOf, hi2, subA]
  intro h; omega
theorem run_slice_mid (hT : P.underlying t = some (.slice E)) (hi : (P.info? E).map (·.size) = some k) (a : Option Addr) (n c i j : Nat) (hij : i ≤ j) (hj : j ≤ c) (w : World) :
    (Instr.slice t (.slice a n c) (some (.int .i64 (i : Int))) (some (.int .i64 (j : Int))) none).run P w = .ok (.slice (subA a (c = i) (i * k)) (j - i) (c - i)) w := by
  obtain ⟨ii, hi1, hi2⟩ : ∃ i, P.info? E = some i ∧ i.size = k := by
    cases hx : P.info? E with
    | none => rw [hx] at hi; cases hi
    | some i => rw [hx] at hi; simp at hi; exact ⟨i, rfl, hi⟩
  simp [Instr.slice, Instr.sliceBounds, Instr.sliceBound, run_underlying hT, Go.sizeOf, typeInfo, hi1, asIntOf, hi2, subA]
  rw [if_pos hj, if_pos hij]
end
/-- Cells that are known where a slice begins. -/
def Src (w : World) (a : Option Addr) (xs : List Value) : Prop := ∀ b, a = some b → ∀ j u, xs[j]? = some u → w.cell? (b.add j) = some u
theorem Src.sub {w : World} {a : Option Addr} {xs : List Value} (h : Src w a xs) (d : Prop) [Decidable d] (off : Nat) (hd : d → xs.length ≤ off) : Src w (subA a d off) (xs.drop off) := by
  intro b hb j u hu
  rw [List.getElem?_drop] at hu
  have hlt := (List.getElem?_eq_some_iff.1 hu).1
  have hnd : ¬ d := fun h => by have := hd h; omega
  rw [subA, if_neg hnd] at hb
  cases a with
  | none => cases hb
  | some x =>
    simp only [Option.map_some, Option.some.injEq] at hb
    subst hb
    rw [Go.Addr.add_add]
    exact h x rfl _ _ hu
theorem Src.take {w : World} {a : Option Addr} {xs : List Value} (h : Src w a xs) (m : Nat) : Src w a (xs.take m) := by
  intro b hb j u hu
  rw [List.getElem?_take] at hu
  split at hu
  · exact h b hb j u hu
  · cases hu
section
variable {W w : World} {A : Assn} {E k : Nat} {a : Option Addr} {n c : Nat} {xs : List Value}
theorem Sat.osl_Src (h : Sat W w (sep (osl E k a n c xs) A)) : Src w a xs := by
  intro b hb j u hu
  obtain ⟨g, e, hc⟩ := h.osl_at (fun e => by rw [e] at hu; simp at hu)
  rw [e] at hb; cases hb
  have := hc j u hu
  unfold Addr.add
  split
  · rename_i e; subst e; exact this
  · simpa using this
theorem Sat.osl_none (h : Sat W w (sep (osl E k a n c xs) A)) (ha : a = none) : n = 0 ∧ c = 0 := by
  rcases h.osl_cases with ⟨_, h1, h2, _⟩ | ⟨g, cur, h1, _⟩
  · exact ⟨h1, h2⟩
  · rw [h1] at ha; cases ha
end
theorem subA_none {a : Option Addr} {d : Prop} [Decidable d] {off : Nat} (h : subA a d off = none) : a = none := by
  unfold subA at h
  split at h
  · exact h
  · cases a with
    | none => rfl
    | some x => cases h
end PA
