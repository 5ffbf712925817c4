/- The disk in plain. No program in sight. -/
import Derived.Test.YtcmjbjlliehdiaaDoorGAuthmapChecksSVal
import Derived.Test.YtcmjbjlliehdiaaDoorGAuthmapChecks22
namespace PA
open Go
abbrev File := List UInt8 × Nat
def dset (fs : Nat → File) (n : Nat) (x : File) : Nat → File := fun j => if j = n then x else fs j
def noFiles : Nat → File := fun _ => ([], 0)
/-- The sum over the files. -/
def sumTo (g : Nat → Nat) : Nat → Nat
  | 0 => 0
  | n + 1 => sumTo g n + g n
theorem sumTo_congr {g h : Nat → Nat} : ∀ {n : Nat}, (∀ j, j < n → g j = h j) → sumTo g n = sumTo h n
  | 0, _ => rfl
  | n + 1, e => by rw [sumTo, sumTo, sumTo_congr (n := n) (fun j hj => e j (by omega)), e n (by omega)]
theorem sumTo_one {g h : Nat → Nat} {k : Nat} : ∀ {n : Nat}, k < n → (∀ j, j ≠ k → g j = h j) → sumTo g n + h k = sumTo h n + g k
  | 0, hk, _ => by omega
  | n + 1, hk, e => by
    rw [sumTo, sumTo]
    by_cases hkn : k = n
    · subst hkn
      rw [sumTo_congr (g := g) (h := h) (fun j hj => e j (by omega))]
      omega
    · have := sumTo_one (n := n) (by omega) e
      have := e n (fun h => hkn h.symm)
      omega
theorem sumTo_le {g h : Nat → Nat} : ∀ {n : Nat}, (∀ j, g j ≤ h j) → sumTo g n ≤ sumTo h n
  | 0, _ => Nat.le_refl _
  | n + 1, e => Nat.add_le_add (sumTo_le (n := n) e) (e n)
theorem sumTo_ge {g : Nat → Nat} {k : Nat} : ∀ {n : Nat}, k < n → g k ≤ sumTo g n
  | 0, h => by omega
  | n + 1, h => by
    rw [sumTo]
    by_cases e : k = n
    · subst e; omega
    · have := sumTo_ge (g := g) (k := k) (n := n) (by omega); omega
structure DSt where
  room : Nat
  fs : Nat → File
  off : Bool
  plan : Option Nat
def usedF (fs : Nat → File) : Nat := sumTo (fun j => (fs j).1.length) 64
def DSt.used (s : DSt) : Nat := usedF s.fs
structure DSt.ok (s : DSt) : Prop where
  dur : ∀ j, (s.fs j).2 ≤ (s.fs j).1.length
  hi : ∀ j, 64 ≤ j → s.fs j = ([], 0)
  fit : s.used ≤ s.room
  room : s.room ≤ 16777216
  plan : ∀ q, s.plan = some q → q ≤ 9223372036854775807
def DSt.step (s : DSt) : Bool × DSt := match s.plan with
  | none => (true, s)
  | some 0 => (false, { s with off := true, plan := none })
  | some (q + 1) => (true, { s with plan := some q })
def DSt.put (s : DSt) (n : Nat) (x : File) : DSt := { s with fs := dset s.fs n x }
def fileAt (fs : Nat → File) (n : Int) : File := if 0 ≤ n then fs n.toNat else ([], 0)
def DSt.app (s : DSt) (n : Nat) (b : List UInt8) : DSt := s.put n ((s.fs n).1 ++ b, (s.fs n).2)
def appendD (s : DSt) (n : Int) (b : List UInt8) : Int × DSt :=
  if n < 0 ∨ 64 ≤ n then (1, s) else if s.off then (19, s) else if s.room < s.used + b.length then (18, s)
  else (if (s.app n.toNat b).step.1 then 0 else 19, (s.app n.toNat b).step.2)
def readD (s : DSt) (n : Int) : List UInt8 × Int := if n < 0 ∨ 64 ≤ n then ([], 1) else if s.off then ([], 19) else ((s.fs n.toNat).1, 0)
def DSt.hard (s : DSt) : DSt := { s with fs := fun j => ((s.fs j).1, (s.fs j).1.length) }
def syncD (s : DSt) : Int × DSt := if s.off then (19, s) else if s.step.1 then (0, s.step.2.hard) else (19, s.step.2)
def truncD (s : DSt) (n size : Int) : Int × DSt :=
  if n < 0 ∨ 64 ≤ n ∨ size < 0 ∨ ((fileAt s.fs n).1.length : Int) < size then (1, s) else if s.off then (19, s)
  else if s.step.1 then (0, s.step.2.put n.toNat ((s.fs n.toNat).1.take size.toNat, min (s.fs n.toNat).2 size.toNat)) else (19, s.step.2)
def armD (s : DSt) (n : Int) : DSt := if s.off then s else { s with plan := if 0 ≤ n then some n.toNat else none }
def newD (room : Nat) : DSt := ⟨room, noFiles, false, none⟩
theorem usedF_put {fs : Nat → File} {n : Nat} {x : File} (hn : n < 64) : usedF (dset fs n x) + (fs n).1.length = usedF fs + x.1.length := by
  have := sumTo_one (g := fun j => (dset fs n x j).1.length) (h := fun j => (fs j).1.length) (k := n) (n := 64) hn (fun j hj => by simp [dset, hj])
  simpa [usedF, dset] using this
theorem used_ge {fs : Nat → File} {n : Nat} (hn : n < 64) : (fs n).1.length ≤ usedF fs := sumTo_ge (g := fun j => (fs j).1.length) hn
theorem newD_ok {room : Nat} (h : room ≤ 16777216) : (newD room).ok := by
  refine ⟨fun j => Nat.le_refl _, fun j _ => rfl, ?_, h, fun q hq => by cases hq⟩
  have : ∀ n, sumTo (fun _ => 0) n = 0 := fun n => by
    induction n with
    | zero => rfl
    | succ n ih => rw [sumTo, ih]
  show sumTo (fun _ => 0) 64 ≤ room
  rw [this]; omega
theorem DSt.ok.step {s : DSt} (h : s.ok) : s.step.2.ok := by
  obtain ⟨h1, h2, h3, h4, h5⟩ := h
  unfold DSt.step
  split
  · exact ⟨h1, h2, h3, h4, h5⟩
  · exact ⟨h1, h2, h3, h4, fun q hq => by cases hq⟩
  · rename_i q hq
    exact ⟨h1, h2, h3, h4, fun r hr => by
      have := h5 _ hq
      simp only [Option.some.injEq] at hr
      omega⟩
theorem DSt.ok.put {s : DSt} (h : s.ok) {n : Nat} (hn : n < 64) {x : File} (hx : x.2 ≤ x.1.length) (hu : s.used + x.1.length ≤ s.room + (s.fs n).1.length) : (s.put n x).ok := by
  obtain ⟨h1, h2, h3, h4, h5⟩ := h
  refine ⟨fun j => ?_, fun j hj => ?_, ?_, h4, h5⟩
  · show (dset s.fs n x j).2 ≤ (dset s.fs n x j).1.length
    unfold dset; split
    · exact hx
    · exact h1 j
  · show dset s.fs n x j = _
    unfold dset; rw [if_neg (by omega)]; exact h2 j hj
  · have := usedF_put (fs := s.fs) (x := x) hn
    show usedF (dset s.fs n x) ≤ s.room
    unfold DSt.used at hu
    omega
theorem DSt.step_fs (s : DSt) : s.step.2.fs = s.fs ∧ s.step.2.room = s.room := by unfold DSt.step; split <;> exact ⟨rfl, rfl⟩
theorem DSt.ok.hard {s : DSt} (h : s.ok) : s.hard.ok := by
  obtain ⟨h1, h2, h3, h4, h5⟩ := h
  refine ⟨fun j => Nat.le_refl _, fun j hj => ?_, h3, h4, h5⟩
  show ((s.fs j).1, (s.fs j).1.length) = _
  rw [h2 j hj]; rfl
theorem DSt.ok.nil {s : DSt} (h : s.ok) {n : Nat} (hn : (s.fs n).1 = []) : s.fs n = ([], 0) := by
  have := h.dur n
  rw [hn] at this
  exact Prod.ext hn (by simpa using this)
end PA
/- The disk in plain: the files in order, an inverted bit, a crash. No program in sight. -/
namespace PA
open Go
/-- The numbers of the files that are not empty, ascending. -/
def filesD (fs : Nat → File) : List Nat := (List.range 64).filter fun j => !(fs j).1.isEmpty
theorem mem_filesD {fs : Nat → File} {j : Nat} : j ∈ filesD fs ↔ j < 64 ∧ (fs j).1 ≠ [] := by
  simp [filesD]
theorem filesD_sorted (fs : Nat → File) : (filesD fs).Pairwise (· < ·) := List.Pairwise.filter _ List.pairwise_lt_range
theorem filesD_nodup (fs : Nat → File) : (filesD fs).Nodup := (filesD_sorted fs).imp fun h => Nat.ne_of_lt h
theorem filesD_len (fs : Nat → File) : (filesD fs).length ≤ 64 := by
  have := List.length_filter_le (fun j => !(fs j).1.isEmpty) (List.range 64)
  simpa [filesD] using this
/-- Two ascending lists with the same members are one. -/
theorem asc_unique : ∀ {l m : List Int}, l.Pairwise (· < ·) → m.Pairwise (· < ·) → (∀ k, k ∈ l ↔ k ∈ m) → l = m
  | [], [], _, _, _ => rfl
  | [], y :: m, _, _, h => absurd ((h y).2 (by simp)) (by simp)
  | x :: l, [], _, _, h => absurd ((h x).1 (by simp)) (by simp)
  | x :: l, y :: m, h1, h2, h => by
    have g1 := List.pairwise_cons.1 h1
    have g2 := List.pairwise_cons.1 h2
    have e : x = y := by
      rcases List.mem_cons.1 ((h x).1 (by simp)) with e | e
      · exact e
      · rcases List.mem_cons.1 ((h y).2 (by simp)) with e' | e'
        · exact e'.symm
        · have a1 := g2.1 x e; have a2 := g1.1 y e'; omega
    subst e
    rw [asc_unique g1.2 g2.2 fun k => ?_]
    constructor
    · intro hk
      rcases List.mem_cons.1 ((h k).1 (List.mem_cons_of_mem _ hk)) with e | e
      · have := g1.1 k hk; omega
      · exact e
    · intro hk
      rcases List.mem_cons.1 ((h k).2 (List.mem_cons_of_mem _ hk)) with e | e
      · have := g2.1 k hk; omega
      · exact e
theorem filesD_iv (fs : Nat → File) : ((filesD fs).map fun j : Nat => (j : Int)).Pairwise (· < ·) := by
  rw [List.pairwise_map]
  exact (filesD_sorted fs).imp fun h => by omega
/-- Distinct numbers below n: at most n. -/
theorem nodup_below : ∀ (n : Nat) (l : List Nat), l.Nodup → (∀ x ∈ l, x < n) → l.length ≤ n
  | 0, l, _, h => by cases l with
    | nil => simp
    | cons x l => exact absurd (h x (by simp)) (by omega)
  | n + 1, l, hn, h => by
    by_cases hm : n ∈ l
    · have := nodup_below n (l.erase n) (hn.erase n) (fun x hx => by
        have h1 := (hn.mem_erase_iff).1 hx
        have := h x h1.2
        have := h1.1
        omega)
      rw [List.length_erase_of_mem hm] at this
      omega
    · have := nodup_below n l hn (fun x hx => by
        have := h x hx
        have : x ≠ n := fun e => hm (by rw [← e]; exact hx)
        omega)
      omega
def flipB (x : UInt8) (k : Nat) : UInt8 := UInt8.ofNat (x.toNat ^^^ 2 ^ (7 - k))
theorem flipB_toNat (x : UInt8) (k : Nat) : (flipB x k).toNat = x.toNat ^^^ 2 ^ (7 - k) := by
  have h1 : 2 ^ (7 - k) < 2 ^ 8 := Nat.pow_lt_pow_right (by omega) (by omega)
  have h2 : x.toNat ^^^ 2 ^ (7 - k) < 2 ^ 8 := Nat.xor_lt_two_pow x.toNat_lt h1
  rw [flipB, UInt8.toNat_ofNat']
  exact Nat.mod_eq_of_lt h2
theorem flipB_twice (x : UInt8) (k : Nat) : flipB (flipB x k) k = x := by
  apply UInt8.toNat_inj.1
  rw [flipB_toNat, flipB_toNat, Nat.xor_assoc, Nat.xor_self, Nat.xor_zero]
theorem flipB_ne (x : UInt8) (k : Nat) : flipB x k ≠ x := fun h => by
  have h1 := flipB_toNat x k
  rw [h] at h1
  have h2 : x.toNat ^^^ (x.toNat ^^^ 2 ^ (7 - k)) = 0 := by rw [← h1, Nat.xor_self]
  rw [← Nat.xor_assoc, Nat.xor_self, Nat.zero_xor] at h2
  have := Nat.two_pow_pos (7 - k)
  omega
/-- Bit i of the bytes inverted. -/
def flipAt (bs : List UInt8) (i : Nat) : List UInt8 := bs.modify (i / 8) fun x => flipB x (i % 8)
theorem flipAt_len (bs : List UInt8) (i : Nat) : (flipAt bs i).length = bs.length := by simp [flipAt]
theorem flipAt_twice (bs : List UInt8) (i : Nat) : flipAt (flipAt bs i) i = bs := by
  apply List.ext_getElem
  · simp [flipAt]
  · intro j h1 h2
    simp only [flipAt, List.getElem_modify]
    split
    · exact flipB_twice _ _
    · rfl
def rotD (s : DSt) (n bit : Int) : Int × DSt :=
  if n < 0 ∨ 64 ≤ n ∨ bit < 0 ∨ (fileAt s.fs n).1.length ≤ bit.toNat / 8 then (1, s)
  else (0, s.put n.toNat (flipAt (s.fs n.toNat).1 bit.toNat, (s.fs n.toNat).2))
/-! ### a crash -/
def keptD (x : File) (keep : List Int) (i : Nat) : Nat := match keep[i]? with
  | some k => (max 0 (min k ((x.1.length - x.2 : Nat) : Int))).toNat
  | none => 0
theorem keptD_le (x : File) (keep : List Int) (i : Nat) : keptD x keep i ≤ x.1.length - x.2 := by
  unfold keptD; split <;> omega
def cutF (x : File) (m : Nat) : File := (x.1.take (x.2 + m), x.2)
/-- The files after the first i of ks have been cut. -/
def cutN (fs : Nat → File) (ks : List Nat) (keep : List Int) : Nat → Nat → File
  | 0 => fs
  | i + 1 => match ks[i]? with
    | some n => dset (cutN fs ks keep i) n (cutF (fs n) (keptD (fs n) keep i))
    | none => cutN fs ks keep i
/-- The loose bytes of the first i of ks: file and place. -/
def looseN (fs : Nat → File) (ks : List Nat) (keep : List Int) : Nat → List (Nat × Nat)
  | 0 => []
  | i + 1 => match ks[i]? with
    | some n => looseN fs ks keep i ++ (List.range (keptD (fs n) keep i)).map fun j => (n, (fs n).2 + j)
    | none => looseN fs ks keep i
def flipL (fs : Nat → File) (lo : List (Nat × Nat)) (flip : Int) : Nat → File :=
  if 0 ≤ flip ∧ lo ≠ [] then match lo[flip.toNat % (8 * lo.length) / 8]? with
    | some (n, j) => dset fs n ((fs n).1.modify j fun x => flipB x (flip.toNat % (8 * lo.length) % 8), (fs n).2)
    | none => fs
  else fs
theorem cutN_some {fs : Nat → File} {ks : List Nat} {keep : List Int} {i n : Nat} (h : ks[i]? = some n) : cutN fs ks keep (i + 1) = dset (cutN fs ks keep i) n (cutF (fs n) (keptD (fs n) keep i)) := by
  rw [cutN, h]
theorem cutN_none {fs : Nat → File} {ks : List Nat} {keep : List Int} {i : Nat} (h : ks[i]? = none) : cutN fs ks keep (i + 1) = cutN fs ks keep i := by
  rw [cutN, h]
theorem looseN_some {fs : Nat → File} {ks : List Nat} {keep : List Int} {i n : Nat} (h : ks[i]? = some n) : looseN fs ks keep (i + 1) = looseN fs ks keep i ++ (List.range (keptD (fs n) keep i)).map fun j => (n, (fs n).2 + j) := by
  rw [looseN, h]
theorem looseN_none {fs : Nat → File} {ks : List Nat} {keep : List Int} {i : Nat} (h : ks[i]? = none) : looseN fs ks keep (i + 1) = looseN fs ks keep i := by
  rw [looseN, h]
theorem flipL_some {fs : Nat → File} {lo : List (Nat × Nat)} {flip : Int} {n j : Nat} (h0 : 0 ≤ flip) (h1 : lo ≠ []) (h : lo[flip.toNat % (8 * lo.length) / 8]? = some (n, j)) :
    flipL fs lo flip = dset fs n ((fs n).1.modify j fun x => flipB x (flip.toNat % (8 * lo.length) % 8), (fs n).2) := by
  rw [flipL, if_pos ⟨h0, h1⟩, h]
theorem flipL_no {fs : Nat → File} {lo : List (Nat × Nat)} {flip : Int} (h : ¬ (0 ≤ flip ∧ lo ≠ [])) : flipL fs lo flip = fs := by
  rw [flipL, if_neg h]
theorem flip_lt {lo : List (Nat × Nat)} (flip : Int) (h1 : lo ≠ []) : flip.toNat % (8 * lo.length) / 8 < lo.length := by
  have : 0 < lo.length := List.length_pos_iff.2 h1
  have := Nat.mod_lt flip.toNat (show 0 < 8 * lo.length by omega)
  omega
def cutD (s : DSt) (keep : List Int) : DSt := { s with fs := cutN s.fs (filesD s.fs) keep (filesD s.fs).length }
def looseD (s : DSt) (keep : List Int) : List (Nat × Nat) := looseN s.fs (filesD s.fs) keep (filesD s.fs).length
def crashD (s : DSt) (keep : List Int) (flip : Int) : DSt :=
  { (({ s with fs := flipL (cutD s keep).fs (looseD s keep) flip } : DSt).hard) with off := false, plan := none }
theorem cutN_notin {fs : Nat → File} {ks : List Nat} {keep : List Int} {n : Nat} : ∀ {i : Nat}, (∀ j, j < i → ks[j]? ≠ some n) → cutN fs ks keep i n = fs n
  | 0, _ => rfl
  | i + 1, h => by
    have ih := cutN_notin (fs := fs) (keep := keep) (i := i) fun j hj => h j (by omega)
    rcases hm : ks[i]? with _ | m
    · rw [cutN_none hm]; exact ih
    · rw [cutN_some hm]
      have : n ≠ m := fun e => h i (by omega) (by rw [hm, e])
      simp [dset, this, ih]
theorem cutN_cases {fs : Nat → File} {ks : List Nat} {keep : List Int} (n : Nat) : ∀ (i : Nat), cutN fs ks keep i n = fs n ∨ ∃ m, m ≤ (fs n).1.length - (fs n).2 ∧ cutN fs ks keep i n = cutF (fs n) m
  | 0 => .inl rfl
  | i + 1 => by
    have ih := cutN_cases (fs := fs) (ks := ks) (keep := keep) n i
    rcases hm : ks[i]? with _ | m
    · rw [cutN_none hm]; exact ih
    · rw [cutN_some hm]
      by_cases e : n = m
      · subst e
        exact .inr ⟨keptD (fs n) keep i, keptD_le _ _ _, by simp [dset]⟩
      · simpa [dset, e] using ih
theorem cutF_len (x : File) (m : Nat) (hx : x.2 ≤ x.1.length) (hm : m ≤ x.1.length - x.2) : (cutF x m).1.length = x.2 + m := by
  simp [cutF]; omega
theorem cutN_ok {s : DSt} (h : s.ok) (ks : List Nat) (keep : List Int) (i : Nat) : ({ s with fs := cutN s.fs ks keep i } : DSt).ok := by
  obtain ⟨h1, h2, h3, h4, h5⟩ := h
  have hle : ∀ j, (cutN s.fs ks keep i j).1.length ≤ (s.fs j).1.length := fun j => by
    rcases cutN_cases (fs := s.fs) (ks := ks) (keep := keep) j i with e | ⟨m, hm, e⟩
    · rw [e]; exact Nat.le_refl _
    · rw [e, cutF_len _ _ (h1 j) hm]; have := h1 j; omega
  refine ⟨fun j => ?_, fun j hj => ?_, ?_, h4, h5⟩
  · show (cutN s.fs ks keep i j).2 ≤ (cutN s.fs ks keep i j).1.length
    rcases cutN_cases (fs := s.fs) (ks := ks) (keep := keep) j i with e | ⟨m, hm, e⟩
    · rw [e]; exact h1 j
    · rw [e, cutF_len _ _ (h1 j) hm]; show (s.fs j).2 ≤ _; omega
  · show cutN s.fs ks keep i j = _
    rcases cutN_cases (fs := s.fs) (ks := ks) (keep := keep) j i with e | ⟨m, hm, e⟩
    · rw [e]; exact h2 j hj
    · rw [e, h2 j hj]; simp [cutF]
  · show usedF (cutN s.fs ks keep i) ≤ s.room
    have : usedF (cutN s.fs ks keep i) ≤ usedF s.fs := sumTo_le hle
    unfold DSt.used at h3
    omega
theorem usedF_congr {f g : Nat → File} (h : ∀ j, (f j).1.length = (g j).1.length) : usedF f = usedF g := sumTo_congr fun j _ => h j
theorem flipL_len (fs : Nat → File) (lo : List (Nat × Nat)) (flip : Int) (j : Nat) : (flipL fs lo flip j).1.length = (fs j).1.length ∧ (flipL fs lo flip j).2 = (fs j).2 := by
  by_cases h : 0 ≤ flip ∧ lo ≠ []
  · have hl := flip_lt flip h.2
    obtain ⟨⟨n, i⟩, hx⟩ : ∃ x, lo[flip.toNat % (8 * lo.length) / 8]? = some x := ⟨_, List.getElem?_eq_getElem hl⟩
    rw [flipL_some h.1 h.2 hx]
    by_cases e : j = n
    · subst e; simp [dset]
    · simp [dset, e]
  · rw [flipL_no h]; exact ⟨rfl, rfl⟩
theorem DSt.ok.alike {s : DSt} (h : s.ok) {fs : Nat → File} (hl : ∀ j, (fs j).1.length = (s.fs j).1.length ∧ (fs j).2 = (s.fs j).2) : ({ s with fs := fs } : DSt).ok := by
  obtain ⟨h1, h2, h3, h4, h5⟩ := h
  refine ⟨fun j => ?_, fun j hj => ?_, ?_, h4, h5⟩
  · show (fs j).2 ≤ (fs j).1.length
    rw [(hl j).1, (hl j).2]; exact h1 j
  · show fs j = _
    have e1 := (hl j).1
    have e2 := (hl j).2
    rw [h2 j hj] at e1 e2
    exact Prod.ext (List.eq_nil_of_length_eq_zero e1) e2
  · show usedF fs ≤ s.room
    rw [usedF_congr fun j => (hl j).1]; exact h3
theorem crashD_ok {s : DSt} (h : s.ok) (keep : List Int) (flip : Int) : (crashD s keep flip).ok := by
  have h1 := (cutN_ok h (filesD s.fs) keep (filesD s.fs).length).alike (fs := flipL (cutD s keep).fs (looseD s keep) flip) (fun j => flipL_len _ _ _ j)
  have h2 := h1.hard
  exact ⟨h2.dur, h2.hi, h2.fit, h2.room, fun q hq => by cases hq⟩
theorem looseN_mono {fs : Nat → File} {ks : List Nat} {keep : List Int} : ∀ {i j : Nat}, i ≤ j → ∃ r, looseN fs ks keep j = looseN fs ks keep i ++ r
  | i, 0, h => by obtain rfl : i = 0 := by omega
                  exact ⟨[], by simp⟩
  | i, j + 1, h => by
    by_cases e : i = j + 1
    · subst e; exact ⟨[], by simp⟩
    · obtain ⟨r, hr⟩ := looseN_mono (fs := fs) (ks := ks) (keep := keep) (i := i) (j := j) (by omega)
      rcases hm : ks[j]? with _ | m
      · rw [looseN_none hm]; exact ⟨r, hr⟩
      · rw [looseN_some hm, hr]; exact ⟨_, List.append_assoc _ _ _⟩
theorem looseN_mem {fs : Nat → File} {ks : List Nat} {keep : List Int} {x : Nat × Nat} : ∀ {i : Nat}, x ∈ looseN fs ks keep i → ∃ j, j < i ∧ ks[j]? = some x.1 ∧ (fs x.1).2 ≤ x.2 ∧ x.2 < (fs x.1).2 + keptD (fs x.1) keep j
  | 0, h => by cases h
  | i + 1, h => by
    unfold looseN at h
    split at h
    · rename_i n hn
      rcases List.mem_append.1 h with h | h
      · obtain ⟨j, h1, h2⟩ := looseN_mem h
        exact ⟨j, by omega, h2⟩
      · obtain ⟨j, hj, rfl⟩ := List.mem_map.1 h
        have := List.mem_range.1 hj
        exact ⟨i, by omega, hn, by show (fs n).2 ≤ (fs n).2 + j; omega, by show (fs n).2 + j < (fs n).2 + keptD (fs n) keep i; omega⟩
    · obtain ⟨j, h1, h2⟩ := looseN_mem h
      exact ⟨j, by omega, h2⟩
end PA
/- The map in plain: pairs laid over a map, and deleted again; what Range returns, as known values. -/
namespace PA
open Go
def ovr (L : PrL) (M : KVs) : KVs := fun k => match lkP L k with | some v => some v | none => M k
theorem ovr_nil (M : KVs) : ovr [] M = M := rfl
theorem ovr_some {L : PrL} {k : Int} {v : List UInt8} (M : KVs) (h : lkP L k = some v) : ovr L M k = some v := by unfold ovr; rw [h]
theorem ovr_none {L : PrL} {k : Int} (M : KVs) (h : lkP L k = none) : ovr L M k = M k := by unfold ovr; rw [h]
theorem ovr_cons (x : Int × List UInt8) (L : PrL) (M : KVs) : ovr (x :: L) M = fset (ovr L M) x.1 (some x.2) := by
  funext k
  unfold ovr fset
  rw [lkP]
  by_cases h : k = x.1
  · rw [if_pos h, if_pos h]
  · rw [if_neg h, if_neg h]
theorem fset_fset (M : KVs) (k : Int) (a b : Option (List UInt8)) : fset (fset M k a) k b = fset M k b := by
  funext j; unfold fset; split <;> rfl
theorem AscP.drop {L : PrL} (h : AscP L) (i : Nat) : AscP (L.drop i) := by
  unfold AscP at h ⊢
  rw [List.map_drop]
  exact h.drop
theorem lkP_head {E : PrL} (hE : AscP E) {i : Nat} (hi : i < E.length) : lkP (E.drop (i + 1)) E[i].1 = none := by
  have h := hE.drop i
  rw [List.drop_eq_getElem_cons hi] at h
  exact lkP_none fun y hy => by have := h.cons.1 y hy; omega
theorem ovr_del {L E : PrL} (hE : AscP E) {i : Nat} (hi : i < E.length) (hL : lkP L E[i].1 = none) :
    fset (ovr L (lkP (E.drop i))) E[i].1 none = ovr L (lkP (E.drop (i + 1))) ∧ (ovr L (lkP (E.drop i)) E[i].1).isSome = true := by
  have e := List.drop_eq_getElem_cons hi
  refine ⟨?_, ?_⟩
  · funext k
    unfold fset
    by_cases hk : k = E[i].1
    · rw [if_pos hk, hk, ovr_none _ hL, lkP_head hE hi]
    · rw [if_neg hk]
      unfold ovr
      rw [e, lkP, if_neg hk]
  · rw [ovr_none _ hL, e, lkP, if_pos rfl]; rfl
theorem ovr_skip {L E : PrL} {i : Nat} (hi : i < E.length) (hL : lkP L E[i].1 ≠ none) : ovr L (lkP (E.drop i)) = ovr L (lkP (E.drop (i + 1))) := by
  have e := List.drop_eq_getElem_cons hi
  funext k
  by_cases hk : k = E[i].1
  · obtain ⟨v, hv⟩ := Option.ne_none_iff_exists'.1 hL
    rw [hk, ovr_some _ hv, ovr_some _ hv]
  · unfold ovr
    rw [e, lkP, if_neg hk]
theorem ovr_end (L : PrL) : ovr L (lkP []) = lkP L := by
  funext k
  unfold ovr
  cases h : lkP L k with
  | some v => rfl
  | none => rfl
theorem akeys_unique {M : KVs} {l m : List Int} (h1 : AKeys M l) (h2 : AKeys M m) : l = m :=
  asc_unique h1.1 h2.1 fun k => (h1.2 k).trans (h2.2 k).symm
end PA
namespace Go.Proofs.YtcmjbjlliehdiaaDoor
open Go.RowKit PA
theorem fillM_ovr : ∀ (L : PrL) (M : KVs), AscP L → fillM M L = ovr L M
  | [], _, _ => rfl
  | x :: l, M, h => by
    have e : fillM M (x :: l) = fillM (fset M x.1 (some x.2)) l := rfl
    rw [e, fillM_ovr l _ h.cons.2, ovr_cons]
    have hn : lkP l x.1 = none := lkP_none fun y hy => by have := h.cons.1 y hy; omega
    funext k
    by_cases hk : k = x.1
    · rw [hk, ovr_none _ hn]
      simp [fset]
    · unfold ovr fset
      rw [if_neg hk, if_neg hk]
theorem fillM_lk {L : PrL} (h : AscP L) : fillM (fun _ => none) L = lkP L := by
  rw [fillM_ovr L _ h]
  funext k
  unfold ovr
  cases lkP L k <;> rfl
/-- The proof of a range. -/
def rngP (M : KVs) (a b : Int) : Prf := ⟨leftL M a (outL a b 12 0), rightL M a (outL a b 12 0), shapeL M (outL a b 12 0)⟩
theorem arange_kn {W w : World} {A : Assn} {I : Mem} (hw : WholeOK W) (p : Nat) (M : KVs) (a b : Int) (h : Sat W w (sep (isAM p M) (sep (kn I) A))) (hn : 0 ≤ a ∧ a ≤ b ∧ b ≤ 4095) :
    Calls Tryd.prog 17 #[.pointer (some ⟨p, 0, none⟩), .int .i64 a, .int .i64 b] w fun e w' => ∃ pa n pc ks la nl lc ra nr rc sa ns sc J, AKeys M ks ∧ Mem.le I J ∧
      e = .returned (.tuple #[.slice pa n pc, .agg #[.slice la nl lc, .slice ra nr rc, .slice sa ns sc], .int .i64 0]) ∧ n = (pairsL M a b ks).length ∧
      (rPairQ.slice 2).rel J [.slice pa n pc] (pairsL M a b ks) ∧ prfR J (.agg #[.slice la nl lc, .slice ra nr rc, .slice sa ns sc]) (rngP M a b) ∧ Sat W w' (sep (kn J) (sep (isAM p M) A)) := by
  refine (arange_ok hw p M a b h hn).mono ?_
  rintro e w' ⟨pa, pc, cells, ks, la, lc, ra, rc, sa, sc, J, hk, hJ, rfl, h1⟩
  have h2 := Sat.slice_of_osl (R := rPair) (xs := pairsL M a b ks) h1 rfl
  obtain ⟨J1, hJ1, hr1, h3⟩ := (show Sat W w' (sep ((rPair.slice 2).is [.slice pa (pairsL M a b ks).length pc] (pairsL M a b ks)) (sep (kn J) _)) from h2.p4.p1).learn
  obtain ⟨J2, hJ2, hr2, h4⟩ := hs_learn (show Sat W w' (sep (osl 43 1 la (leftL M a (outL a b 12 0)).length lc ((leftL M a (outL a b 12 0)).map uv)) (sep (kn J1) (sep (osl 43 1 ra (rightL M a (outL a b 12 0)).length rc ((rightL M a (outL a b 12 0)).map uv)) (sep (osl 5 1 sa (shapeL M (outL a b 12 0)).length sc ((shapeL M (outL a b 12 0)).map bv)) (sep (isAM p M) A))))) by simpa only [sep_comm, sep_lcomm, sep_assoc] using h3) rfl
  obtain ⟨J3, hJ3, hr3, h5⟩ := hs_learn (show Sat W w' (sep (osl 43 1 ra (rightL M a (outL a b 12 0)).length rc ((rightL M a (outL a b 12 0)).map uv)) (sep (kn J2) (sep (osl 5 1 sa (shapeL M (outL a b 12 0)).length sc ((shapeL M (outL a b 12 0)).map bv)) (sep (isAM p M) A)))) by simpa only [sep_comm, sep_lcomm, sep_assoc] using h4) rfl
  obtain ⟨J4, hJ4, hr4, h6⟩ := osl_learnQ (show Sat W w' (sep (osl 5 1 sa (shapeL M (outL a b 12 0)).length sc ((shapeL M (outL a b 12 0)).map bv)) (sep (kn J3) (sep (isAM p M) A))) by simpa only [sep_comm, sep_lcomm, sep_assoc] using h5) rfl
  exact ⟨pa, _, pc, ks, la, _, lc, ra, _, rc, sa, _, sc, J4, hk, Mem.le_trans hJ (Mem.le_trans hJ1 (Mem.le_trans hJ2 (Mem.le_trans hJ3 hJ4))), rfl, rfl, (rPairQ.slice 2).mono (Mem.le_trans hJ2 (Mem.le_trans hJ3 hJ4)) hr1,
    ⟨_, _, _, rfl, rHs.mono (Mem.le_trans hJ3 hJ4) hr2, rHs.mono hJ4 hr3, hr4⟩, h6⟩
theorem slice_formQ {α : Type} {R : Rep α} {k : Nat} {I : Mem} {v : Value} {xs : List α} (h : (R.slice k).rel I [v] xs) : ∃ a c, v = .slice a xs.length c ∧ Swf a xs.length c := by
  obtain ⟨a, c, cells, e, hw, -, -⟩ := h
  cases e
  exact ⟨a, c, rfl, hw⟩
theorem pair_ext {I : Mem} {a : Option Addr} {n c : Nat} {l : List (Int × List UInt8)} (h : (rPairQ.slice 2).rel I [.slice a n c] l) (i : Nat) (hi : i < l.length) :
    ∃ b o va vc, a = some ⟨b, o, none⟩ ∧ (∀ w, Ext I w → w.cell? ⟨b, o + i * 2, none⟩ = some (.int .i64 l[i].1) ∧ w.cell? ⟨b, o + i * 2 + 1, none⟩ = some (.slice va l[i].2.length vc)) ∧ rBytes.rel I [.slice va l[i].2.length vc] l[i].2 := by
  obtain ⟨a', c', cells, e, hw, hc, css, rfl, hall⟩ := h
  simp only [List.cons.injEq, Value.slice.injEq, and_true] at e
  obtain ⟨rfl, rfl, rfl⟩ := e
  have hl := hall.length
  have hi' : i < css.length := by omega
  obtain ⟨hr, hk⟩ := hall.get i hi' hi
  obtain ⟨va, vc, hcs, hrv⟩ := hr
  have f0 := flatten_get (k := 2) css (fun c hc => (hall.mem c hc).choose_spec.2) i hi' 0 (by omega)
  have f1 := flatten_get (k := 2) css (fun c hc => (hall.mem c hc).choose_spec.2) i hi' 1 (by omega)
  rw [hcs] at f0 f1
  obtain ⟨b, o, e, h2⟩ := cells_ext hc (fun e => by rw [e] at f0; simp at f0)
  exact ⟨b, o, va, vc, e, fun w he => ⟨h2 w he _ _ f0, h2 w he _ _ f1⟩, hrv⟩
/-- Made, its map given up. -/
theorem made_kn {W w : World} {A : Assn} {I : Mem} (a : Option Addr) (n c : Nat) (N : List Int) (m : Nat) (hm : m ≤ 100) (hn : n = N.length) (h64 : ∀ x ∈ N, -9223372036854775808 ≤ x ∧ x ≤ 9223372036854775807)
    (hv : (rInt.slice 1).rel I [.slice a n c] N) (h : Sat W w (sep (kn I) A)) :
    Calls Tryd.prog 11 #[.slice a n c, .int .i64 (m : Nat)] w fun e w' => ∃ q J pa pc L, e = .returned (.pointer (some ⟨q, 0, none⟩)) ∧ L = madeP N (min (n / 2) m) ∧ AscP L ∧ L.length ≤ m ∧ (∀ x ∈ L, (0 ≤ x.1 ∧ x.1 ≤ 4095) ∧ x.2.length ≤ 5) ∧ Mem.le I J ∧ qmR J q L ∧ (rPairQ.slice 2).rel J [.slice pa L.length pc] L ∧
      (∀ w, Ext J w → w.cell? ⟨q, 0, none⟩ = some (.slice pa L.length pc)) ∧ Sat W w' (sep (kn J) A) := by
  refine (qmade_spec a n c N m hm hn h64 hv h).mono ?_
  rintro e w' ⟨q, rfl, h1⟩
  obtain ⟨g1, g2, g3⟩ := madeP_ok N (min (n / 2) m)
  obtain ⟨J, hJ, hq, h2⟩ := qm_settle h1
  obtain ⟨pa, pc, e1, e2⟩ := id hq
  exact ⟨q, J, pa, pc, _, rfl, rfl, g1, by omega, g3, hJ, hq, e2, fun w he => cell_of_row w q 0 _ _ _ (he _ _ e1), h2⟩
theorem filled_lk {W w : World} {A : Assn} {I : Mem} (hw : WholeOK W) (a : Option Addr) (n c : Nat) (L : PrL) (h : Sat W w (sep (kn I) A)) (hv : (rPairQ.slice 2).rel I [.slice a n c] L) (hn : n = L.length) (hn9 : n ≤ 1000) (ha : AscP L)
    (hl : ∀ x ∈ L, (0 ≤ x.1 ∧ x.1 ≤ 4095) ∧ x.2.length ≤ 5) :
    Calls Tryd.prog 12 #[.slice a n c] w fun e w' => ∃ p, e = .returned (.pointer (some ⟨p, 0, none⟩)) ∧ Sat W w' (sep (isAM p (lkP L)) (sep (kn I) A)) := by
  have := filled_spec hw a n c L h hv hn (by omega) (fun x hx => ⟨(hl x hx).1, by have := (hl x hx).2; omega⟩)
  rw [fillM_lk ha] at this
  exact this
theorem nodup_sub_len : ∀ (l m : List Int), l.Nodup → (∀ k ∈ l, k ∈ m) → l.length ≤ m.length
  | [], _, _, _ => Nat.zero_le _
  | x :: l, m, hn, h => by
    have hx := (List.nodup_cons.1 hn)
    have hm : x ∈ m := h x (by simp)
    have ih := nodup_sub_len l (m.erase x) hx.2 fun k hk => by
      have hne : k ≠ x := fun e => hx.1 (by rw [← e]; exact hk)
      exact (List.mem_erase_of_ne hne).2 (h k (by simp [hk]))
    rw [List.length_erase_of_mem hm] at ih
    have : 0 < m.length := List.length_pos_of_mem hm
    simp only [List.length_cons]
    omega
theorem akeys_len {L : PrL} (_hL : AscP L) {ks : List Int} (h : AKeys (lkP L) ks) : ks.length ≤ L.length := by
  have hm : ∀ (L : PrL) (k : Int), (lkP L k).isSome = true → k ∈ L.map (·.1) := by
    intro L
    induction L with
    | nil => intro k h; cases h
    | cons x l ih =>
      intro k h
      rw [lkP] at h
      by_cases e : k = x.1
      · rw [e]; simp
      · rw [if_neg e] at h
        simp [ih k h]
  have hnd : ks.Nodup := h.1.imp fun h => by omega
  have hsub : ∀ k ∈ ks, k ∈ L.map (·.1) := fun k hk => hm L k ((h.2 k).1 hk)
  have := nodup_sub_len ks (L.map (·.1)) hnd hsub
  simpa using this
end Go.Proofs.YtcmjbjlliehdiaaDoor
