/- Package wire: the reader's Uint at an error, Int, End, Raw. -/
import Derived.Test.YtcnonbhhlbplpaaW5s
namespace Go.Proofs.Ytcnonbhhlbplpaa
open Go.RowKit PA
def RSt.small : RSt → Prop
  | .ok l => l.length ≤ 1073742900
  | .error _ => True
theorem rduint_spec {W w : World} {A : Assn} (p : Nat) (st : RSt) (h : Sat W w (sep (isRd 85 p st) A)) (hl : RSt.small st) :
    Calls Try.prog 59 #[.pointer (some ⟨p, 0, none⟩)] w fun r w' => r = .returned (.int .u64 ((stU st).1 : Nat)) ∧ Sat W w' (sep (isRd 85 p (stU st).2) A) := by
  cases st with
  | ok l => exact rduint_ok p l h hl
  | error e =>
    obtain ⟨c1, he⟩ := isRd_cell_er h
    have b1 : (e == 0) = false := by simp; omega
    clear he hl
    go_enter Try.func59, Try.ntmps59
    go_wp2_with fail
    go_loop [3, 4] (fun _ iv => iv = .int .i64 0) (fun _ _ => 0)
    case atStart => exact rfl
    case round =>
      obtain rfl := hrel
      go_wp2_with fail
      go_ret
      exact ⟨rfl, h⟩
theorem stU_small {st : RSt} (h : RSt.small st) : RSt.small (stU st).2 := by
  cases st with
  | error e => exact h
  | ok l =>
    unfold stU; dsimp only
    cases hu : uintP l with
    | error e => trivial
    | ok x =>
      obtain ⟨n, l'⟩ := x
      obtain ⟨-, k, e⟩ := uintGo_lt l 0 0 (by omega) (by decide) n l' hu
      show l'.length ≤ _
      have : l.length ≤ 1073742900 := h
      rw [e, List.length_drop]; omega
theorem rdint_spec {W w : World} {A : Assn} (p : Nat) (st : RSt) (h : Sat W w (sep (isRd 85 p st) A)) (hl : RSt.small st) :
    Calls Try.prog 48 #[.pointer (some ⟨p, 0, none⟩)] w fun r w' => r = .returned (.int .i64 (stI st).1) ∧ Sat W w' (sep (isRd 85 p (stI st).2) A) := by
  have HU := Lib.hid (rduint_spec p st h hl)
  have HZ := Lib.hid (stU_lt st)
  obtain ⟨z, hz⟩ : ∃ z, z = (stU st).1 := ⟨_, rfl⟩
  have e1 : stI st = (unz z, (stU st).2) := by rw [hz]; rfl
  rw [← hz] at HU HZ
  have HE := Lib.hid e1
  clear e1 h hl hz
  go_enter Try.func48, Try.ntmps48
  go_wp2_with fail
  refine HU.out.mono ?_
  rintro r w2 ⟨rfl, hS⟩
  go_wp2_with fail
  refine (unzigzag_spec z _ HZ.out).mono ?_
  rintro r w3 ⟨rfl, rfl⟩
  go_wp2_with fail
  go_ret
  rw [HE.out]
  exact ⟨rfl, hS⟩
theorem rdend_spec {W w : World} {A : Assn} (p : Nat) (st : RSt) (h : Sat W w (sep (isRd 85 p st) A)) (hl : RSt.small st) :
    Calls Try.prog 33 #[.pointer (some ⟨p, 0, none⟩)] w fun r w' => r = .returned (.int .i64 (stE st)) ∧ Sat W w' (sep (isRd 85 p st) A) := by
  cases st with
  | error e =>
    obtain ⟨c1, he⟩ := isRd_cell_er h
    have b1 : (e == 0) = false := by simp; omega
    clear he hl
    go_enter Try.func33, Try.ntmps33
    go_wp2_with fail
    go_ret
    exact ⟨rfl, h⟩
  | ok l =>
    obtain ⟨a, c, -, h1⟩ := isRd_ok h
    obtain ⟨n, hn⟩ : ∃ n, n = l.length := ⟨_, rfl⟩
    rw [← hn] at h1
    have c0 : w.cell? ⟨p, 0, none⟩ = some (.slice a n c) := h1.cell 0
    have c1 : w.cell? ⟨p, 1, none⟩ = some (.int .i64 0) := h1.cell 1
    have hv : stE (.ok l) = if n = 0 then 0 else 2 := by
      unfold stE; dsimp only
      cases l with
      | nil => simp [hn]
      | cons x l => simp [hn]
    have HV := Lib.hid hv
    clear h1 hl hv hn
    by_cases h0 : n = 0
    · subst h0
      go_enter Try.func33, Try.ntmps33
      go_wp2_with fail
      go_ret
      exact ⟨by rw [HV.out]; rfl, h⟩
    · have hp : 0 < n := by omega
      have HP := Lib.hid h0
      clear h0
      go_enter Try.func33, Try.ntmps33
      go_wp2_with fail
      go_ret
      exact ⟨by rw [HV.out, if_neg HP.out]; rfl, h⟩
end Go.Proofs.Ytcnonbhhlbplpaa
