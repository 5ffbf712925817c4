/- The disk in plain: the files in order, an inverted bit, a crash. No program in sight. -/
import Derived.Test.YtcmjbjlliehdiaaDoorGAuthmapRuns40
namespace PA
open Go
/-- The numbers of the files that are not empty, ascending. -/
def filesD (fs : Nat → File) : List Nat := (List.range 64).filter fun j => !(fs j).1.isEmpty
theorem mem_filesD {fs : Nat → File} {j : Nat} : j ∈ filesD fs ↔ j < 64 ∧ (fs j).1 ≠ [] := by
  simp [filesD]
theorem filesD_sorted (fs : Nat → File) : (filesD fs).Pairwise (· < ·) := List.Pairwise.filter _ List.pairwise_lt_range
theorem filesD_nodup (fs : Nat → File) : (filesD fs).Nodup := (filesD_sorted fs).imp fun h => Nat.ne_of_lt h
theorem filesD_len (fs : Nat → File) : (filesD fs).length ≤ 64 := by
  have := List.length_filter_le (fun j => !(fs j).1.isEmpty) (List.range 64)
  simpa [filesD] using this
/-- Two ascending lists with the same members are one. -/
theorem asc_unique : ∀ {l m : List Int}, l.Pairwise (· < ·) → m.Pairwise (· < ·) → (∀ k, k ∈ l ↔ k ∈ m) → l = m
  | [], [], _, _, _ => rfl
  | [], y :: m, _, _, h => absurd ((h y).2 (by simp)) (by simp)
  | x :: l, [], _, _, h => absurd ((h x).1 (by simp)) (by simp)
  | x :: l, y :: m, h1, h2, h => by
    have g1 := List.pairwise_cons.1 h1
    have g2 := List.pairwise_cons.1 h2
    have e : x = y := by
      rcases List.mem_cons.1 ((h x).1 (by simp)) with e | e
      · exact e
      · rcases List.mem_cons.1 ((h y).2 (by simp)) with e' | e'
        · exact e'.symm
        · have a1 := g2.1 x e; have a2 := g1.1 y e'; omega
    subst e
    rw [asc_unique g1.2 g2.2 fun k => ?_]
    constructor
    · intro hk
      rcases List.mem_cons.1 ((h k).1 (List.mem_cons_of_mem _ hk)) with e | e
      · have := g1.1 k hk; omega
      · exact e
    · intro hk
      rcases List.mem_cons.1 ((h k).2 (List.mem_cons_of_mem _ hk)) with e | e
      · have := g2.1 k hk; omega
      · exact e
theorem filesD_iv (fs : Nat → File) : ((filesD fs).map fun j : Nat => (j : Int)).Pairwise (· < ·) := by
  rw [List.pairwise_map]
  exact (filesD_sorted fs).imp fun h => by omega
/-- Distinct numbers below n: at most n. -/
theorem nodup_below : ∀ (n : Nat) (l : List Nat), l.Nodup → (∀ x ∈ l, x < n) → l.length ≤ n
  | 0, l, _, h => by cases l with
    | nil => simp
    | cons x l => exact absurd (h x (by simp)) (by omega)
  | n + 1, l, hn, h => by
    by_cases hm : n ∈ l
    · have := nodup_below n (l.erase n) (hn.erase n) (fun x hx => by
        have h1 := (hn.mem_erase_iff).1 hx
        have := h x h1.2
        have := h1.1
        omega)
      rw [List.length_erase_of_mem hm] at this
      omega
    · have := nodup_below n l hn (fun x hx => by
        have := h x hx
        have : x ≠ n := fun e => hm (by rw [← e]; exact hx)
        omega)
      omega
def flipB (x : UInt8) (k : Nat) : UInt8 := UInt8.ofNat (x.toNat ^^^ 2 ^ (7 - k))
theorem flipB_toNat (x : UInt8) (k : Nat) : (flipB x k).toNat = x.toNat ^^^ 2 ^ (7 - k) := by
  have h1 : 2 ^ (7 - k) < 2 ^ 8 := Nat.pow_lt_pow_right (by omega) (by omega)
  have h2 : x.toNat ^^^ 2 ^ (7 - k) < 2 ^ 8 := Nat.xor_lt_two_pow x.toNat_lt h1
  rw [flipB, UInt8.toNat_ofNat']
  exact Nat.mod_eq_of_lt h2
theorem flipB_twice (x : UInt8) (k : Nat) : flipB (flipB x k) k = x := by
  apply UInt8.toNat_inj.1
  rw [flipB_toNat, flipB_toNat, Nat.xor_assoc, Nat.xor_self, Nat.xor_zero]
theorem flipB_ne (x : UInt8) (k : Nat) : flipB x k ≠ x := fun h => by
  have h1 := flipB_toNat x k
  rw [h] at h1
  have h2 : x.toNat ^^^ (x.toNat ^^^ 2 ^ (7 - k)) = 0 := by rw [← h1, Nat.xor_self]
  rw [← Nat.xor_assoc, Nat.xor_self, Nat.zero_xor] at h2
  have := Nat.two_pow_pos (7 - k)
  omega
/-- Bit i of the bytes inverted. -/
def flipAt (bs : List UInt8) (i : Nat) : List UInt8 := bs.modify (i / 8) fun x => flipB x (i % 8)
theorem flipAt_len (bs : List UInt8) (i : Nat) : (flipAt bs i).length = bs.length := by simp [flipAt]
theorem flipAt_twice (bs : List UInt8) (i : Nat) : flipAt (flipAt bs i) i = bs := by
  apply List.ext_getElem
  · simp [flipAt]
  · intro j h1 h2
    simp only [flipAt, List.getElem_modify]
    split
    · exact flipB_twice _ _
    · rfl
def rotD (s : DSt) (n bit : Int) : Int × DSt :=
  if n < 0 ∨ 64 ≤ n ∨ bit < 0 ∨ (fileAt s.fs n).1.length ≤ bit.toNat / 8 then (1, s)
  else (0, s.put n.toNat (flipAt (s.fs n.toNat).1 bit.toNat, (s.fs n.toNat).2))
/-! ### a crash -/
def keptD (x : File) (keep : List Int) (i : Nat) : Nat := match keep[i]? with
  | some k => (max 0 (min k ((x.1.length - x.2 : Nat) : Int))).toNat
  | none => 0
theorem keptD_le (x : File) (keep : List Int) (i : Nat) : keptD x keep i ≤ x.1.length - x.2 := by
  unfold keptD; split <;> omega
def cutF (x : File) (m : Nat) : File := (x.1.take (x.2 + m), x.2)
/-- The files after the first i of ks have been cut. -/
def cutN (fs : Nat → File) (ks : List Nat) (keep : List Int) : Nat → Nat → File
  | 0 => fs
  | i + 1 => match ks[i]? with
    | some n => dset (cutN fs ks keep i) n (cutF (fs n) (keptD (fs n) keep i))
    | none => cutN fs ks keep i
/-- The loose bytes of the first i of ks: file and place. -/
def looseN (fs : Nat → File) (ks : List Nat) (keep : List Int) : Nat → List (Nat × Nat)
  | 0 => []
  | i + 1 => match ks[i]? with
    | some n => looseN fs ks keep i ++ (List.range (keptD (fs n) keep i)).map fun j => (n, (fs n).2 + j)
    | none => looseN fs ks keep i
def flipL (fs : Nat → File) (lo : List (Nat × Nat)) (flip : Int) : Nat → File :=
  if 0 ≤ flip ∧ lo ≠ [] then match lo[flip.toNat % (8 * lo.length) / 8]? with
    | some (n, j) => dset fs n ((fs n).1.modify j fun x => flipB x (flip.toNat % (8 * lo.length) % 8), (fs n).2)
    | none => fs
  else fs
theorem cutN_some {fs : Nat → File} {ks : List Nat} {keep : List Int} {i n : Nat} (h : ks[i]? = some n) : cutN fs ks keep (i + 1) = dset (cutN fs ks keep i) n (cutF (fs n) (keptD (fs n) keep i)) := by
  rw [cutN, h]
theorem cutN_none {fs : Nat → File} {ks : List Nat} {keep : List Int} {i : Nat} (h : ks[i]? = none) : cutN fs ks keep (i + 1) = cutN fs ks keep i := by
  rw [cutN, h]
theorem looseN_some {fs : Nat → File} {ks : List Nat} {keep : List Int} {i n : Nat} (h : ks[i]? = some n) : looseN fs ks keep (i + 1) = looseN fs ks keep i ++ (List.range (keptD (fs n) keep i)).map fun j => (n, (fs n).2 + j) := by
  rw [looseN, h]
theorem looseN_none {fs : Nat → File} {ks : List Nat} {keep : List Int} {i : Nat} (h : ks[i]? = none) : looseN fs ks keep (i + 1) = looseN fs ks keep i := by
  rw [looseN, h]
theorem flipL_some {fs : Nat → File} {lo : List (Nat × Nat)} {flip : Int} {n j : Nat} (h0 : 0 ≤ flip) (h1 : lo ≠ []) (h : lo[flip.toNat % (8 * lo.length) / 8]? = some (n, j)) :
    flipL fs lo flip = dset fs n ((fs n).1.modify j fun x => flipB x (flip.toNat % (8 * lo.length) % 8), (fs n).2) := by
  rw [flipL, if_pos ⟨h0, h1⟩, h]
theorem flipL_no {fs : Nat → File} {lo : List (Nat × Nat)} {flip : Int} (h : ¬ (0 ≤ flip ∧ lo ≠ [])) : flipL fs lo flip = fs := by
  rw [flipL, if_neg h]
theorem flip_lt {lo : List (Nat × Nat)} (flip : Int) (h1 : lo ≠ []) : flip.toNat % (8 * lo.length) / 8 < lo.length := by
  have : 0 < lo.length := List.length_pos_iff.2 h1
  have := Nat.mod_lt flip.toNat (show 0 < 8 * lo.length by omega)
  omega
def cutD (s : DSt) (keep : List Int) : DSt := { s with fs := cutN s.fs (filesD s.fs) keep (filesD s.fs).length }
def looseD (s : DSt) (keep : List Int) : List (Nat × Nat) := looseN s.fs (filesD s.fs) keep (filesD s.fs).length
def crashD (s : DSt) (keep : List Int) (flip : Int) : DSt :=
  { (({ s with fs := flipL (cutD s keep).fs (looseD s keep) flip } : DSt).hard) with off := false, plan := none }
theorem cutN_notin {fs : Nat → File} {ks : List Nat} {keep : List Int} {n : Nat} : ∀ {i : Nat}, (∀ j, j < i → ks[j]? ≠ some n) → cutN fs ks keep i n = fs n
  | 0, _ => rfl
  | i + 1, h => by
    have ih := cutN_notin (fs := fs) (keep := keep) (i := i) fun j hj => h j (by omega)
    rcases hm : ks[i]? with _ | m
    · rw [cutN_none hm]; exact ih
    · rw [cutN_some hm]
      have : n ≠ m := fun e => h i (by omega) (by rw [hm, e])
      simp [dset, this, ih]
theorem cutN_cases {fs : Nat → File} {ks : List Nat} {keep : List Int} (n : Nat) : ∀ (i : Nat), cutN fs ks keep i n = fs n ∨ ∃ m, m ≤ (fs n).1.length - (fs n).2 ∧ cutN fs ks keep i n = cutF (fs n) m
  | 0 => .inl rfl
  | i + 1 => by
    have ih := cutN_cases (fs := fs) (ks := ks) (keep := keep) n i
    rcases hm : ks[i]? with _ | m
    · rw [cutN_none hm]; exact ih
    · rw [cutN_some hm]
      by_cases e : n = m
      · subst e
        exact .inr ⟨keptD (fs n) keep i, keptD_le _ _ _, by simp [dset]⟩
      · simpa [dset, e] using ih
theorem cutF_len (x : File) (m : Nat) (hx : x.2 ≤ x.1.length) (hm : m ≤ x.1.length - x.2) : (cutF x m).1.length = x.2 + m := by
  simp [cutF]; omega
theorem cutN_ok {s : DSt} (h : s.ok) (ks : List Nat) (keep : List Int) (i : Nat) : ({ s with fs := cutN s.fs ks keep i } : DSt).ok := by
  obtain ⟨h1, h2, h3, h4, h5⟩ := h
  have hle : ∀ j, (cutN s.fs ks keep i j).1.length ≤ (s.fs j).1.length := fun j => by
    rcases cutN_cases (fs := s.fs) (ks := ks) (keep := keep) j i with e | ⟨m, hm, e⟩
    · rw [e]; exact Nat.le_refl _
    · rw [e, cutF_len _ _ (h1 j) hm]; have := h1 j; omega
  refine ⟨fun j => ?_, fun j hj => ?_, ?_, h4, h5⟩
  · show (cutN s.fs ks keep i j).2 ≤ (cutN s.fs ks keep i j).1.length
    rcases cutN_cases (fs := s.fs) (ks := ks) (keep := keep) j i with e | ⟨m, hm, e⟩
    · rw [e]; exact h1 j
    · rw [e, cutF_len _ _ (h1 j) hm]; show (s.fs j).2 ≤ _; omega
  · show cutN s.fs ks keep i j = _
    rcases cutN_cases (fs := s.fs) (ks := ks) (keep := keep) j i with e | ⟨m, hm, e⟩
    · rw [e]; exact h2 j hj
    · rw [e, h2 j hj]; simp [cutF]
  · show usedF (cutN s.fs ks keep i) ≤ s.room
    have : usedF (cutN s.fs ks keep i) ≤ usedF s.fs := sumTo_le hle
    unfold DSt.used at h3
    omega
theorem usedF_congr {f g : Nat → File} (h : ∀ j, (f j).1.length = (g j).1.length) : usedF f = usedF g := sumTo_congr fun j _ => h j
theorem flipL_len (fs : Nat → File) (lo : List (Nat × Nat)) (flip : Int) (j : Nat) : (flipL fs lo flip j).1.length = (fs j).1.length ∧ (flipL fs lo flip j).2 = (fs j).2 := by
  by_cases h : 0 ≤ flip ∧ lo ≠ []
  · have hl := flip_lt flip h.2
    obtain ⟨⟨n, i⟩, hx⟩ : ∃ x, lo[flip.toNat % (8 * lo.length) / 8]? = some x := ⟨_, List.getElem?_eq_getElem hl⟩
    rw [flipL_some h.1 h.2 hx]
    by_cases e : j = n
    · subst e; simp [dset]
    · simp [dset, e]
  · rw [flipL_no h]; exact ⟨rfl, rfl⟩
theorem DSt.ok.alike {s : DSt} (h : s.ok) {fs : Nat → File} (hl : ∀ j, (fs j).1.length = (s.fs j).1.length ∧ (fs j).2 = (s.fs j).2) : ({ s with fs := fs } : DSt).ok := by
  obtain ⟨h1, h2, h3, h4, h5⟩ := h
  refine ⟨fun j => ?_, fun j hj => ?_, ?_, h4, h5⟩
  · show (fs j).2 ≤ (fs j).1.length
    rw [(hl j).1, (hl j).2]; exact h1 j
  · show fs j = _
    have e1 := (hl j).1
    have e2 := (hl j).2
    rw [h2 j hj] at e1 e2
    exact Prod.ext (List.eq_nil_of_length_eq_zero e1) e2
  · show usedF fs ≤ s.room
    rw [usedF_congr fun j => (hl j).1]; exact h3
theorem crashD_ok {s : DSt} (h : s.ok) (keep : List Int) (flip : Int) : (crashD s keep flip).ok := by
  have h1 := (cutN_ok h (filesD s.fs) keep (filesD s.fs).length).alike (fs := flipL (cutD s keep).fs (looseD s keep) flip) (fun j => flipL_len _ _ _ j)
  have h2 := h1.hard
  exact ⟨h2.dur, h2.hi, h2.fit, h2.room, fun q hq => by cases hq⟩
theorem looseN_mono {fs : Nat → File} {ks : List Nat} {keep : List Int} : ∀ {i j : Nat}, i ≤ j → ∃ r, looseN fs ks keep j = looseN fs ks keep i ++ r
  | i, 0, h => by obtain rfl : i = 0 := by omega
                  exact ⟨[], by simp⟩
  | i, j + 1, h => by
    by_cases e : i = j + 1
    · subst e; exact ⟨[], by simp⟩
    · obtain ⟨r, hr⟩ := looseN_mono (fs := fs) (ks := ks) (keep := keep) (i := i) (j := j) (by omega)
      rcases hm : ks[j]? with _ | m
      · rw [looseN_none hm]; exact ⟨r, hr⟩
      · rw [looseN_some hm, hr]; exact ⟨_, List.append_assoc _ _ _⟩
theorem looseN_mem {fs : Nat → File} {ks : List Nat} {keep : List Int} {x : Nat × Nat} : ∀ {i : Nat}, x ∈ looseN fs ks keep i → ∃ j, j < i ∧ ks[j]? = some x.1 ∧ (fs x.1).2 ≤ x.2 ∧ x.2 < (fs x.1).2 + keptD (fs x.1) keep j
  | 0, h => by cases h
  | i + 1, h => by
    unfold looseN at h
    split at h
    · rename_i n hn
      rcases List.mem_append.1 h with h | h
      · obtain ⟨j, h1, h2⟩ := looseN_mem h
        exact ⟨j, by omega, h2⟩
      · obtain ⟨j, hj, rfl⟩ := List.mem_map.1 h
        have := List.mem_range.1 hj
        exact ⟨i, by omega, hn, by show (fs n).2 ≤ (fs n).2 + j; omega, by show (fs n).2 + j < (fs n).2 + keptD (fs n) keep i; omega⟩
    · obtain ⟨j, h1, h2⟩ := looseN_mem h
      exact ⟨j, by omega, h2⟩
end PA
