/- The disk in plain. No program in sight. -/
import Derived.Test.YtcmjbjlliehdiaaDoorVal
namespace PA
open Go
abbrev File := List UInt8 × Nat
def dset (fs : Nat → File) (n : Nat) (x : File) : Nat → File := fun j => if j = n then x else fs j
def noFiles : Nat → File := fun _ => ([], 0)
/-- The sum over the files. -/
def sumTo (g : Nat → Nat) : Nat → Nat
  | 0 => 0
  | n + 1 => sumTo g n + g n
theorem sumTo_congr {g h : Nat → Nat} : ∀ {n : Nat}, (∀ j, j < n → g j = h j) → sumTo g n = sumTo h n
  | 0, _ => rfl
  | n + 1, e => by rw [sumTo, sumTo, sumTo_congr (n := n) (fun j hj => e j (by omega)), e n (by omega)]
theorem sumTo_one {g h : Nat → Nat} {k : Nat} : ∀ {n : Nat}, k < n → (∀ j, j ≠ k → g j = h j) → sumTo g n + h k = sumTo h n + g k
  | 0, hk, _ => by omega
  | n + 1, hk, e => by
    rw [sumTo, sumTo]
    by_cases hkn : k = n
    · subst hkn
      rw [sumTo_congr (g := g) (h := h) (fun j hj => e j (by omega))]
      omega
    · have := sumTo_one (n := n) (by omega) e
      have := e n (fun h => hkn h.symm)
      omega
theorem sumTo_le {g h : Nat → Nat} : ∀ {n : Nat}, (∀ j, g j ≤ h j) → sumTo g n ≤ sumTo h n
  | 0, _ => Nat.le_refl _
  | n + 1, e => Nat.add_le_add (sumTo_le (n := n) e) (e n)
theorem sumTo_ge {g : Nat → Nat} {k : Nat} : ∀ {n : Nat}, k < n → g k ≤ sumTo g n
  | 0, h => by omega
  | n + 1, h => by
    rw [sumTo]
    by_cases e : k = n
    · subst e; omega
    · have := sumTo_ge (g := g) (k := k) (n := n) (by omega); omega
structure DSt where
  room : Nat
  fs : Nat → File
  off : Bool
  plan : Option Nat
def usedF (fs : Nat → File) : Nat := sumTo (fun j => (fs j).1.length) 64
def DSt.used (s : DSt) : Nat := usedF s.fs
structure DSt.ok (s : DSt) : Prop where
  dur : ∀ j, (s.fs j).2 ≤ (s.fs j).1.length
  hi : ∀ j, 64 ≤ j → s.fs j = ([], 0)
  fit : s.used ≤ s.room
  room : s.room ≤ 16777216
  plan : ∀ q, s.plan = some q → q ≤ 9223372036854775807
def DSt.step (s : DSt) : Bool × DSt := match s.plan with
  | none => (true, s)
  | some 0 => (false, { s with off := true, plan := none })
  | some (q + 1) => (true, { s with plan := some q })
def DSt.put (s : DSt) (n : Nat) (x : File) : DSt := { s with fs := dset s.fs n x }
def fileAt (fs : Nat → File) (n : Int) : File := if 0 ≤ n then fs n.toNat else ([], 0)
def DSt.app (s : DSt) (n : Nat) (b : List UInt8) : DSt := s.put n ((s.fs n).1 ++ b, (s.fs n).2)
def appendD (s : DSt) (n : Int) (b : List UInt8) : Int × DSt :=
  if n < 0 ∨ 64 ≤ n then (1, s) else if s.off then (19, s) else if s.room < s.used + b.length then (18, s)
  else (if (s.app n.toNat b).step.1 then 0 else 19, (s.app n.toNat b).step.2)
def readD (s : DSt) (n : Int) : List UInt8 × Int := if n < 0 ∨ 64 ≤ n then ([], 1) else if s.off then ([], 19) else ((s.fs n.toNat).1, 0)
def DSt.hard (s : DSt) : DSt := { s with fs := fun j => ((s.fs j).1, (s.fs j).1.length) }
def syncD (s : DSt) : Int × DSt := if s.off then (19, s) else if s.step.1 then (0, s.step.2.hard) else (19, s.step.2)
def truncD (s : DSt) (n size : Int) : Int × DSt :=
  if n < 0 ∨ 64 ≤ n ∨ size < 0 ∨ ((fileAt s.fs n).1.length : Int) < size then (1, s) else if s.off then (19, s)
  else if s.step.1 then (0, s.step.2.put n.toNat ((s.fs n.toNat).1.take size.toNat, min (s.fs n.toNat).2 size.toNat)) else (19, s.step.2)
def armD (s : DSt) (n : Int) : DSt := if s.off then s else { s with plan := if 0 ≤ n then some n.toNat else none }
def newD (room : Nat) : DSt := ⟨room, noFiles, false, none⟩
theorem usedF_put {fs : Nat → File} {n : Nat} {x : File} (hn : n < 64) : usedF (dset fs n x) + (fs n).1.length = usedF fs + x.1.length := by
  have := sumTo_one (g := fun j => (dset fs n x j).1.length) (h := fun j => (fs j).1.length) (k := n) (n := 64) hn (fun j hj => by simp [dset, hj])
  simpa [usedF, dset] using this
theorem used_ge {fs : Nat → File} {n : Nat} (hn : n < 64) : (fs n).1.length ≤ usedF fs := sumTo_ge (g := fun j => (fs j).1.length) hn
theorem newD_ok {room : Nat} (h : room ≤ 16777216) : (newD room).ok := by
  refine ⟨fun j => Nat.le_refl _, fun j _ => rfl, ?_, h, fun q hq => by cases hq⟩
  have : ∀ n, sumTo (fun _ => 0) n = 0 := fun n => by
    induction n with
    | zero => rfl
    | succ n ih => rw [sumTo, ih]
  show sumTo (fun _ => 0) 64 ≤ room
  rw [this]; omega
theorem DSt.ok.step {s : DSt} (h : s.ok) : s.step.2.ok := by
  obtain ⟨h1, h2, h3, h4, h5⟩ := h
  unfold DSt.step
  split
  · exact ⟨h1, h2, h3, h4, h5⟩
  · exact ⟨h1, h2, h3, h4, fun q hq => by cases hq⟩
  · rename_i q hq
    exact ⟨h1, h2, h3, h4, fun r hr => by
      have := h5 _ hq
      simp only [Option.some.injEq] at hr
      omega⟩
theorem DSt.ok.put {s : DSt} (h : s.ok) {n : Nat} (hn : n < 64) {x : File} (hx : x.2 ≤ x.1.length) (hu : s.used + x.1.length ≤ s.room + (s.fs n).1.length) : (s.put n x).ok := by
  obtain ⟨h1, h2, h3, h4, h5⟩ := h
  refine ⟨fun j => ?_, fun j hj => ?_, ?_, h4, h5⟩
  · show (dset s.fs n x j).2 ≤ (dset s.fs n x j).1.length
    unfold dset; split
    · exact hx
    · exact h1 j
  · show dset s.fs n x j = _
    unfold dset; rw [if_neg (by omega)]; exact h2 j hj
  · have := usedF_put (fs := s.fs) (x := x) hn
    show usedF (dset s.fs n x) ≤ s.room
    unfold DSt.used at hu
    omega
theorem DSt.step_fs (s : DSt) : s.step.2.fs = s.fs ∧ s.step.2.room = s.room := by unfold DSt.step; split <;> exact ⟨rfl, rfl⟩
theorem DSt.ok.hard {s : DSt} (h : s.ok) : s.hard.ok := by
  obtain ⟨h1, h2, h3, h4, h5⟩ := h
  refine ⟨fun j => Nat.le_refl _, fun j hj => ?_, h3, h4, h5⟩
  show ((s.fs j).1, (s.fs j).1.length) = _
  rw [h2 j hj]; rfl
theorem DSt.ok.nil {s : DSt} (h : s.ok) {n : Nat} (hn : (s.fs n).1 = []) : s.fs n = ([], 0) := by
  have := h.dur n
  rw [hn] at this
  exact Prod.ext hn (by simpa using this)
end PA
