/- Package wire: the reader's Raw. -/
import Derived.Test.YtbniekblkbdidaaW6
namespace Go.Proofs.Ytbniekblkbdidaa
open Go.RowKit PA
theorem stR_er {st : RSt} {e : Int} (h : stU st = (0, .error e)) : stR st = ([], .error e) := by
  cases st with
  | error e' => have := congrArg Prod.snd h; simp [stU] at this; subst this; rfl
  | ok l =>
    unfold stU at h; dsimp only at h
    unfold stR rawP; dsimp only
    cases hu : uintP l with
    | error e' => rw [hu] at h; simp at h; subst h; rfl
    | ok x => rw [hu] at h; simp at h
theorem stR_ok {st : RSt} {n : Nat} {l : List UInt8} (h : stU st = (n, .ok l)) : stR st = if l.length < n then ([], .error 3) else (l.take n, .ok (l.drop n)) := by
  cases st with
  | error e' => simp [stU] at h
  | ok l' =>
    unfold stU at h; dsimp only at h
    unfold stR rawP; dsimp only
    cases hu : uintP l' with
    | error e' => rw [hu] at h; simp at h
    | ok x =>
      obtain ⟨n', l2⟩ := x
      rw [hu] at h; simp at h
      obtain ⟨rfl, rfl⟩ := h
      dsimp only
      by_cases hlt : l2.length < n'
      · rw [if_pos hlt, if_pos hlt]
      · rw [if_neg hlt, if_neg hlt]
theorem stU_cases (st : RSt) : (∃ e, stU st = (0, .error e)) ∨ ∃ n l, stU st = (n, .ok l) := by
  cases st with
  | error e => exact .inl ⟨e, rfl⟩
  | ok l =>
    unfold stU; dsimp only
    cases uintP l with
    | error e => exact .inl ⟨e, rfl⟩
    | ok x => exact .inr ⟨_, _, rfl⟩
theorem stR_small {st : RSt} (h : RSt.small st) : RSt.small (stR st).2 := by
  have h1 := stU_small h
  rcases stU_cases st with ⟨e, he⟩ | ⟨n, l, he⟩
  · rw [stR_er he]; trivial
  · rw [stR_ok he]
    rw [he] at h1
    by_cases hlt : l.length < n
    · rw [if_pos hlt]; trivial
    · rw [if_neg hlt]
      have : l.length ≤ 1073742900 := h1
      show (l.drop n).length ≤ _
      rw [List.length_drop]; omega
theorem stR_len {st : RSt} (h : RSt.small st) : (stR st).1.length ≤ 1073742900 := by
  have h1 := stU_small h
  rcases stU_cases st with ⟨e, he⟩ | ⟨n, l, he⟩
  · rw [stR_er he]; exact Nat.zero_le _
  · rw [stR_ok he]
    rw [he] at h1
    by_cases hlt : l.length < n
    · rw [if_pos hlt]; exact Nat.zero_le _
    · rw [if_neg hlt]
      have : l.length ≤ 1073742900 := h1
      show (l.take n).length ≤ _
      rw [List.length_take]; omega
end Go.Proofs.Ytbniekblkbdidaa
