/- Package wire: the reader's Uint at an error, Int, End, Raw. -/
import Derived.Test.YtbniekblkbdidaaW5
namespace Go.Proofs.Ytbniekblkbdidaa
open Go.RowKit PA
def RSt.small : RSt → Prop
  | .ok l => l.length ≤ 1073742900
  | .error _ => True
theorem stU_small {st : RSt} (h : RSt.small st) : RSt.small (stU st).2 := by
  cases st with
  | error e => exact h
  | ok l =>
    unfold stU; dsimp only
    cases hu : uintP l with
    | error e => trivial
    | ok x =>
      obtain ⟨n, l'⟩ := x
      obtain ⟨-, k, e⟩ := uintGo_lt l 0 0 (by omega) (by decide) n l' hu
      show l'.length ≤ _
      have : l.length ≤ 1073742900 := h
      rw [e, List.length_drop]; omega
theorem isRd_slice {W w : World} {A : Assn} {T p : Nat} {st : RSt} (h : Sat W w (sep (isRd T p st) A)) : ∃ a n c, w.cell? ⟨p, 0, none⟩ = some (.slice a n c) ∧ (∀ l, st = .ok l → n = l.length) := by
  cases st with
  | error e =>
    obtain ⟨-, a, n, c, h1⟩ := isRd_er h
    exact ⟨a, n, c, h1.cell 0, fun l e => (by cases e)⟩
  | ok l =>
    obtain ⟨a, c, -, h1⟩ := isRd_ok h
    exact ⟨a, _, c, h1.cell 0, fun l' e => by cases e; rfl⟩
end Go.Proofs.Ytbniekblkbdidaa
