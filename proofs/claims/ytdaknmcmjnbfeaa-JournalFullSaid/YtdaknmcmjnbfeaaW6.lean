/- Package wire: the reader's Uint at an error, Int, End, Raw. -/
import Derived.Test.YtdaknmcmjnbfeaaW5
namespace Go.Proofs.Ytdaknmcmjnbfeaa
open Go.RowKit PA
def RSt.small : RSt → Prop
  | .ok l => l.length ≤ 1073742900
  | .error _ => True
theorem rduint_spec {W w : World} {A : Assn} (p : Nat) (st : RSt) (h : Sat W w (sep (isRd 75 p st) A)) (hl : RSt.small st) :
    Calls Try.prog 26 #[.pointer (some ⟨p, 0, none⟩)] w fun r w' => r = .returned (.int .u64 ((stU st).1 : Nat)) ∧ Sat W w' (sep (isRd 75 p (stU st).2) A) := by
  cases st with
  | ok l => exact rduint_ok p l h hl
  | error e =>
    obtain ⟨c1, he⟩ := isRd_cell_er h
    have b1 : (e == 0) = false := by simp; omega
    clear he hl
    go_enter Try.func26, Try.ntmps26
    go_wp2_with fail
    go_loop [3, 4] (fun _ iv => iv = .int .i64 0) (fun _ _ => 0)
    case atStart => exact rfl
    case round =>
      obtain rfl := hrel
      go_wp2_with fail
      go_ret
      exact ⟨rfl, h⟩
theorem stU_small {st : RSt} (h : RSt.small st) : RSt.small (stU st).2 := by
  cases st with
  | error e => exact h
  | ok l =>
    unfold stU; dsimp only
    cases hu : uintP l with
    | error e => trivial
    | ok x =>
      obtain ⟨n, l'⟩ := x
      obtain ⟨-, k, e⟩ := uintGo_lt l 0 0 (by omega) (by decide) n l' hu
      show l'.length ≤ _
      have : l.length ≤ 1073742900 := h
      rw [e, List.length_drop]; omega
theorem rdint_spec {W w : World} {A : Assn} (p : Nat) (st : RSt) (h : Sat W w (sep (isRd 75 p st) A)) (hl : RSt.small st) :
    Calls Try.prog 77 #[.pointer (some ⟨p, 0, none⟩)] w fun r w' => r = .returned (.int .i64 (stI st).1) ∧ Sat W w' (sep (isRd 75 p (stI st).2) A) := by
  have HU := Lib.hid (rduint_spec p st h hl)
  have HZ := Lib.hid (stU_lt st)
  obtain ⟨z, hz⟩ : ∃ z, z = (stU st).1 := ⟨_, rfl⟩
  have e1 : stI st = (unz z, (stU st).2) := by rw [hz]; rfl
  rw [← hz] at HU HZ
  have HE := Lib.hid e1
  clear e1 h hl hz
  go_enter Try.func77, Try.ntmps77
  go_wp2_with fail
  refine HU.out.mono ?_
  rintro r w2 ⟨rfl, hS⟩
  go_wp2_with fail
  refine (unzigzag_spec z _ HZ.out).mono ?_
  rintro r w3 ⟨rfl, rfl⟩
  go_wp2_with fail
  go_ret
  rw [HE.out]
  exact ⟨rfl, hS⟩
theorem rdend_spec {W w : World} {A : Assn} (p : Nat) (st : RSt) (h : Sat W w (sep (isRd 75 p st) A)) (hl : RSt.small st) :
    Calls Try.prog 27 #[.pointer (some ⟨p, 0, none⟩)] w fun r w' => r = .returned (.int .i64 (stE st)) ∧ Sat W w' (sep (isRd 75 p st) A) := by
  cases st with
  | error e =>
    obtain ⟨c1, he⟩ := isRd_cell_er h
    have b1 : (e == 0) = false := by simp; omega
    clear he hl
    go_enter Try.func27, Try.ntmps27
    go_wp2_with fail
    go_ret
    exact ⟨rfl, h⟩
  | ok l =>
    obtain ⟨a, c, -, h1⟩ := isRd_ok h
    obtain ⟨n, hn⟩ : ∃ n, n = l.length := ⟨_, rfl⟩
    rw [← hn] at h1
    have c0 : w.cell? ⟨p, 0, none⟩ = some (.slice a n c) := h1.cell 0
    have c1 : w.cell? ⟨p, 1, none⟩ = some (.int .i64 0) := h1.cell 1
    have hv : stE (.ok l) = if n = 0 then 0 else 2 := by
      unfold stE; dsimp only
      cases l with
      | nil => simp [hn]
      | cons x l => simp [hn]
    have HV := Lib.hid hv
    clear h1 hl hv hn
    by_cases h0 : n = 0
    · subst h0
      go_enter Try.func27, Try.ntmps27
      go_wp2_with fail
      go_ret
      exact ⟨by rw [HV.out]; rfl, h⟩
    · have hp : 0 < n := by omega
      have HP := Lib.hid h0
      clear h0
      go_enter Try.func27, Try.ntmps27
      go_wp2_with fail
      go_ret
      exact ⟨by rw [HV.out, if_neg HP.out]; rfl, h⟩
theorem isRd_slice {W w : World} {A : Assn} {T p : Nat} {st : RSt} (h : Sat W w (sep (isRd T p st) A)) : ∃ a n c, w.cell? ⟨p, 0, none⟩ = some (.slice a n c) ∧ (∀ l, st = .ok l → n = l.length) := by
  cases st with
  | error e =>
    obtain ⟨-, a, n, c, h1⟩ := isRd_er h
    exact ⟨a, n, c, h1.cell 0, fun l e => (by cases e)⟩
  | ok l =>
    obtain ⟨a, c, -, h1⟩ := isRd_ok h
    exact ⟨a, _, c, h1.cell 0, fun l' e => by cases e; rfl⟩
set_option maxHeartbeats 1000000 in
theorem list_er {W w : World} {A : Assn} (p : Nat) (st : RSt) (h : Sat W w (sep (isRd 75 p st) A)) (hl : RSt.small st) (e : Int) (he : stU st = (0, .error e)) (f : Value) :
    Calls Try.prog 47 #[.pointer (some ⟨p, 0, none⟩), f] w fun r w' => r = .returned (.slice none 0 0) ∧ Sat W w' (sep (isRd 75 p (.error e)) A) := by
  have hu := rduint_spec p st h hl
  rw [he] at hu
  have HU := Lib.hid hu
  clear hu he h hl
  go_enter Try.func47, Try.ntmps47
  go_wp2_with fail
  refine HU.out.mono ?_
  rintro r w2 ⟨rfl, hS⟩
  obtain ⟨c1, he⟩ := isRd_cell_er hS
  obtain ⟨a, n, c, c0, -⟩ := isRd_slice hS
  have b1 : (e == 0) = false := by simp; omega
  have b2 : (e != 0) = true := by simp; omega
  have e0 : ((0 : Nat) : Int) = 0 := rfl
  have hw0 : 0 ≤ IntKind.u64.wrap (n : Int) := by rw [IntKind.wrap_u64]; omega
  have hw1 : decide (IntKind.u64.wrap (n : Int) < 0) = false := by simp; omega
  have hw2 : ¬ IntKind.u64.wrap (n : Int) < 0 := by omega
  clear he hw0 hw2
  go_wp2_with fail
  go_loop [7] (fun iv => iv = .int .u64 0) (fun _ => 0)
  case atStart => exact rfl
  case round =>
    obtain rfl := hrel
    go_wp2_with fail
    go_ret
    exact ⟨rfl, hS⟩
end Go.Proofs.Ytdaknmcmjnbfeaa
