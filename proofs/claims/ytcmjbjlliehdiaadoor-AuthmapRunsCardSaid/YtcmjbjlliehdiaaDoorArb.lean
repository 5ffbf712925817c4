/- A slice of byte slices that came in, as a known slice. -/
import Derived.Test.YtcmjbjlliehdiaaDoorAr
namespace Go.Proofs.YtcmjbjlliehdiaaDoor
open Go.RowKit PA
/-- A slice of byte slices that came in. -/
def IsRowsB (w : World) (a : Option Addr) (len cap : Nat) (A : Nat → Option Addr) (L C : Nat → Nat) (Z : Nat → List Int) : Prop :=
  (a = none ∧ len = 0 ∧ cap = 0) ∨
  ∃ x, a = some x ∧ len ≤ cap ∧ cap ≤ maxLen ∧ ∀ r, r < cap → w.cell? (x.add r) = some (.slice (A r) (L r) (C r)) ∧ L r ≤ C r ∧ C r ≤ maxLen ∧ (Z r).length = C r ∧ (∀ n ∈ Z r, (Lit.int .u8 n).wf = true) ∧ (A r = none → C r = 0) ∧
    ∀ a', A r = some a' → ∀ c, c < C r → w.cell? (a'.add c) = some (.int .u8 ((Z r).getD c 0))
theorem choose_upto {α : Type} [Inhabited α] {p : Nat → α → Prop} : ∀ n, (∀ i, i < n → ∃ x, p i x) → ∃ f : Nat → α, ∀ i, i < n → p i (f i)
  | 0, _ => ⟨fun _ => default, fun _ h => by omega⟩
  | n + 1, h => by
    obtain ⟨f, hf⟩ := choose_upto n fun i hi => h i (by omega)
    obtain ⟨x, hx⟩ := h n (by omega)
    refine ⟨fun i => if i = n then x else f i, fun i hi => ?_⟩
    by_cases e : i = n
    · subst e; simpa using hx
    · simpa [e] using hf i (by omega)
theorem all2_range {α β : Type} {p : α → β → Prop} (f : Nat → α) (g : Nat → β) : ∀ (n k : Nat), (∀ i, k ≤ i → i < k + n → p (f i) (g i)) → All2 p ((List.range' k n).map f) ((List.range' k n).map g)
  | 0, _, _ => trivial
  | n + 1, k, h => by
    rw [List.range'_succ, List.map_cons, List.map_cons]
    exact ⟨h k (by omega) (by omega), all2_range f g n (k + 1) fun i h1 h2 => h i (by omega) (by omega)⟩
theorem argBB {w : World} {a : Option Addr} {len cap : Nat} {A : Nat → Option Addr} {L C : Nat → Nat} {Z : Nat → List Int} (h : IsRowsB w a len cap A L C Z) :
    ∃ l : List (List UInt8), len = l.length ∧ (rBytes.slice 1).rel (wm w) [.slice a len cap] l := by
  rcases h with ⟨rfl, rfl, rfl⟩ | ⟨x, rfl, h1, h2, h3⟩
  · exact ⟨[], rfl, none, 0, [], rfl, ⟨Nat.le_refl _, Nat.zero_le _, fun _ => rfl⟩, .inl rfl, [], rfl, trivial⟩
  · have each : ∀ r, r < len → ∃ l : List UInt8, L r = l.length ∧ rBytes.rel (wm w) [.slice (A r) (L r) (C r)] l := fun r hr => by
      obtain ⟨-, g2, g3, g4, g5, g6, g7⟩ := h3 r (by omega)
      refine argB (zs := Z r) ?_
      cases hA : A r with
      | none =>
        have hc := g6 hA
        exact .inl ⟨rfl, by omega, hc, List.eq_nil_of_length_eq_zero (by omega)⟩
      | some a' => exact .inr ⟨a', rfl, g2, g3, g4, fun i hi => g7 a' hA i (by omega), g5⟩
    obtain ⟨f, hf⟩ := choose_upto len each
    refine ⟨(List.range' 0 len).map f, by simp, some x, cap, (List.range' 0 len).map (fun r => .slice (A r) (L r) (C r)), by simp, ⟨by simpa using h1, h2, fun e => by cases e⟩, cellsAt_of fun j u hu => ?_, (List.range' 0 len).map (fun r => [.slice (A r) (L r) (C r)]), ?_, all2_range _ _ len 0 fun i _ hi => ⟨(hf i (by omega)).2, rfl⟩⟩
    · rw [List.getElem?_map] at hu
      obtain ⟨i, hi, rfl⟩ := Option.map_eq_some_iff.1 hu
      obtain ⟨h4, h5⟩ := List.getElem?_eq_some_iff.1 hi
      simp at h4 h5
      subst h5
      exact (h3 j (by omega)).1
    · have : ∀ (l : List Nat) (g : Nat → Value), l.map g = (l.map fun r => [g r]).flatten := fun l g => by
        induction l with
        | nil => rfl
        | cons y l ih => simp [ih]
      exact this _ _
/-- One element of a known slice of one-cell elements. -/
theorem slice_el {α : Type} {R : Rep α} {I : Mem} {a : Option Addr} {n c : Nat} {xs : List α} (h : (R.slice 1).rel I [.slice a n c] xs) (i : Nat) (hi : i < xs.length) :
    ∃ b o v, a = some ⟨b, o, none⟩ ∧ (∀ w, Ext I w → w.cell? ⟨b, o + i, none⟩ = some v) ∧ R.rel I [v] xs[i] := by
  obtain ⟨a', c', cells, e, hw, hc, css, rfl, hall⟩ := h
  simp only [List.cons.injEq, Value.slice.injEq, and_true] at e
  obtain ⟨rfl, rfl, rfl⟩ := e
  have hl := hall.length
  have hi' : i < css.length := by omega
  obtain ⟨hr, hk⟩ := hall.get i hi' hi
  obtain ⟨v, hv⟩ : ∃ v, css[i] = [v] := by
    match hcs : css[i], hk with
    | [x], _ => exact ⟨x, rfl⟩
  have hf := flatten_get (k := 1) css (fun c hc => (hall.mem c hc).choose_spec.2) i hi' 0 (by omega)
  rw [hv] at hf hr
  have hf2 : css.flatten[i]? = some v := by simpa using hf
  obtain ⟨b, o, e, h2⟩ := cells_ext hc (fun e => by rw [e] at hf2; simp at hf2)
  exact ⟨b, o, v, e, fun w he => h2 w he i v hf2, hr⟩
end Go.Proofs.YtcmjbjlliehdiaaDoor
