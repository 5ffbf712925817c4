/- DiskDurable in plain. No program in sight. -/
import Derived.Test.YtbniekblkbdidaaDp2
namespace PA
open Go
theorem cut_pre {fs : Nat → File} {ks : List Nat} {keep : List Int} (n i : Nat) (hd : (fs n).2 ≤ (fs n).1.length) :
    (cutN fs ks keep i n).1.take (fs n).2 = (fs n).1.take (fs n).2 ∧ (fs n).2 ≤ (cutN fs ks keep i n).1.length ∧ (cutN fs ks keep i n).1.length ≤ (fs n).1.length := by
  rcases cutN_cases (fs := fs) (ks := ks) (keep := keep) n i with e | ⟨m, hm, e⟩
  · rw [e]; exact ⟨rfl, hd, Nat.le_refl _⟩
  · rw [e, cutF_len _ _ hd hm]
    refine ⟨?_, by omega, by omega⟩
    rw [cutF, List.take_take, Nat.min_eq_left (by omega)]
theorem crash_pre {s : DSt} (h : s.ok) (keep : List Int) (flip : Int) (n : Nat) :
    ((crashD s keep flip).fs n).1.take (s.fs n).2 = (s.fs n).1.take (s.fs n).2 ∧ (s.fs n).2 ≤ ((crashD s keep flip).fs n).1.length ∧ ((crashD s keep flip).fs n).1.length ≤ (s.fs n).1.length := by
  have hc := cut_pre (ks := filesD s.fs) (keep := keep) n (filesD s.fs).length (h.dur n)
  show (flipL (cutN s.fs (filesD s.fs) keep (filesD s.fs).length) (looseN s.fs (filesD s.fs) keep (filesD s.fs).length) flip n).1.take _ = _ ∧ _ ≤ (flipL (cutN s.fs (filesD s.fs) keep (filesD s.fs).length) (looseN s.fs (filesD s.fs) keep (filesD s.fs).length) flip n).1.length ∧ (flipL (cutN s.fs (filesD s.fs) keep (filesD s.fs).length) (looseN s.fs (filesD s.fs) keep (filesD s.fs).length) flip n).1.length ≤ _
  rw [(flipL_len _ _ _ n).1]
  refine ⟨?_, hc.2⟩
  rw [← hc.1]
  by_cases hf : 0 ≤ flip ∧ looseN s.fs (filesD s.fs) keep (filesD s.fs).length ≠ []
  · have hl := flip_lt flip hf.2
    obtain ⟨⟨m, i⟩, hx⟩ : ∃ x, (looseN s.fs (filesD s.fs) keep (filesD s.fs).length)[flip.toNat % (8 * (looseN s.fs (filesD s.fs) keep (filesD s.fs).length).length) / 8]? = some x := ⟨_, List.getElem?_eq_getElem hl⟩
    rw [flipL_some hf.1 hf.2 hx]
    by_cases e : n = m
    · subst e
      obtain ⟨j, -, -, hge, -⟩ := looseN_mem (List.mem_of_getElem? hx)
      dsimp only at hge
      simp only [dset, if_true]
      apply List.ext_getElem?
      intro k
      rw [List.getElem?_take, List.getElem?_take]
      split
      · rw [List.getElem?_modify]
        have : ¬ i = k := by omega
        simp [this]
      · rfl
    · simp [dset, e]
  · rw [flipL_no hf]
theorem crash_hard {s : DSt} (h : s.ok) (keep : List Int) (flip : Int) (n : Nat) (hd : (s.fs n).2 = (s.fs n).1.length) : ((crashD s keep flip).fs n).1 = (s.fs n).1 := by
  obtain ⟨h1, h2, h3⟩ := crash_pre h keep flip n
  rw [hd] at h1 h2
  rw [List.take_of_length_le h3, List.take_of_length_le (Nat.le_refl _)] at h1
  exact h1
/-- What grew out of the durable files f0. -/
structure Grown (f0 : Nat → List UInt8) (s : DSt) : Prop where
  off : s.off = false
  plan : s.plan = none
  fs : ∀ j, ∃ t, (s.fs j).1 = f0 j ++ t ∧ (s.fs j).2 = (f0 j).length
theorem grown_hard {s : DSt} (h1 : s.off = false) (h2 : s.plan = none) : syncD s = (0, s.hard) ∧ Grown (fun j => (s.fs j).1) s.hard := by
  constructor
  · rw [syncD, h1, DSt.step, h2]; rfl
  · exact ⟨h1, h2, fun j => ⟨[], by simp [DSt.hard], rfl⟩⟩
theorem Grown.append {f0 : Nat → List UInt8} {s : DSt} (h : Grown f0 s) (n : Int) (b : List UInt8) : Grown f0 (appendD s n b).2 := by
  unfold appendD
  split
  · exact h
  · rw [h.off]
    simp only [Bool.false_eq_true, if_false]
    split
    · exact h
    · have e : (s.app n.toNat b).step.2 = s.app n.toNat b := by
        have : (s.app n.toNat b).plan = none := h.plan
        rw [DSt.step, this]
      rw [e]
      refine ⟨h.off, h.plan, fun j => ?_⟩
      show ∃ t, (dset s.fs n.toNat ((s.fs n.toNat).1 ++ b, (s.fs n.toNat).2) j).1 = _ ∧ (dset s.fs n.toNat ((s.fs n.toNat).1 ++ b, (s.fs n.toNat).2) j).2 = _
      by_cases e : j = n.toNat
      · subst e
        obtain ⟨t, h1, h2⟩ := h.fs n.toNat
        exact ⟨t ++ b, by simp [dset, h1], by simp [dset, h2]⟩
      · simpa [dset, e] using h.fs j
/-- The whole law on one file. -/
theorem Grown.crash {f0 : Nat → List UInt8} {s : DSt} (h : Grown f0 s) (hok : s.ok) (keep : List Int) (flip : Int) (n : Nat) :
    (f0 n).length ≤ ((crashD s keep flip).fs n).1.length ∧ ((crashD s keep flip).fs n).1.take (f0 n).length = f0 n ∧ ((crashD s keep flip).fs n).1.length ≤ (s.fs n).1.length := by
  obtain ⟨t, h1, h2⟩ := h.fs n
  obtain ⟨h3, h4, h5⟩ := crash_pre hok keep flip n
  rw [h2] at h3 h4
  refine ⟨h4, ?_, h5⟩
  rw [h3, h1, List.take_append_of_le_length (Nat.le_refl _), List.take_of_length_le (Nat.le_refl _)]
theorem read_crash (s : DSt) (keep : List Int) (flip : Int) (n : Nat) (hn : n < 64) : readD (crashD s keep flip) (n : Int) = (((crashD s keep flip).fs n).1, 0) := by
  rw [readD, if_neg (by omega), if_neg (by show ¬ false = true; simp)]; rfl
end PA
