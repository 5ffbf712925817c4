/- The reference's map: Find. -/
import Derived.Test.YtcmjbjlliehdiaaDoorGAuthmapRunsSQs
import Derived.Test.YtcmjbjlliehdiaaDoorVal
namespace PA
open Go
theorem AscP.lt {L : PrL} (h : AscP L) {i j : Nat} (hi : i < L.length) (hj : j < L.length) (hij : i < j) : L[i].1 < L[j].1 := by
  have := List.pairwise_iff_getElem.1 h i j (by simpa using hi) (by simpa using hj) hij
  simpa using this
/-- Where the key is found. -/
def findP (L : PrL) (k : Int) : Int := if hasP L k = true then (fndP L k : Nat) else -1
end PA
namespace Go.Proofs.YtcmjbjlliehdiaaDoor
open Go.RowKit PA
set_option maxRecDepth 100000 in
set_option maxHeartbeats 4000000 in
theorem qfind_core {w : World} (q : Nat) (L : PrL) (k : Int) (ha : AscP L) (hl : L.length ≤ 4000) (a : Option Addr) (c : Nat) (c00 : w.cell? ⟨q, 0, none⟩ = some (.slice a L.length c))
    (hc : ∀ i (hi : i < L.length), ∃ g o, a = some ⟨g, o, none⟩ ∧ w.cell? ⟨g, o + i * 2, none⟩ = some (.int .i64 L[i].1)) :
    Calls Tryd.prog 14 #[.pointer (some ⟨q, 0, none⟩), .int .i64 k] w fun e w' => e = .returned (.int .i64 (findP L k)) ∧ w' = w := by
  obtain ⟨n, hn⟩ : ∃ n, n = L.length := ⟨_, rfl⟩
  have c0 : w.cell? ⟨q, 0, none⟩ = some (.slice a n c) := by rw [hn]; exact c00
  have HC := Lib.hid hc
  have HN := Lib.hid hn
  have HA := Lib.hid ha
  have hnl : n ≤ 4000 := by omega
  obtain ⟨r, hr⟩ : ∃ r, r = findP L k := ⟨_, rfl⟩
  rw [← hr]
  have HR := Lib.hid hr
  clear c00 hc hn ha hl hr
  go_enter Tryd.func14, Tryd.ntmps14
  go_wp2
  go_loopw [5] (fun iv' wr => ∃ i : Nat, i ≤ n ∧ iv' = .int .i64 (i : Nat) ∧ wr = w ∧ Hid (∀ j (hj : j < L.length), j < i → L[j].1 ≠ k)) (fun iv' _ => n - (intOf iv').toNat)
  case atStart => exact ⟨0, by omega, rfl, rfl, Lib.hid fun j _ hj => by omega⟩
  case round =>
    obtain ⟨i, hi, rfl, rfl, hno⟩ := hrel
    by_cases hin : i < n
    · have hiL : i < L.length := by rw [← HN.out]; exact hin
      obtain ⟨g, o, rfl, g0⟩ := HC.out i hiL
      obtain ⟨x, hx⟩ : ∃ x, x = L[i].1 := ⟨_, rfl⟩
      rw [← hx] at g0
      have HX := Lib.hid hx
      have hinI : (i : Int) < (n : Int) := by omega
      by_cases hxk : x = k
      · have hB : (x == k) = true := by simp [hxk]
        have hri : r = (i : Int) := by
          have hf : fndP L k = i := by
            have h1 := fndP_le L k
            rcases Nat.lt_trichotomy (fndP L k) i with h2 | h2 | h2
            · exfalso
              have h3 := fndP_ge L k (by omega)
              have h4 := HA.out.lt (i := fndP L k) (by omega) hiL h2
              rw [← hx, hxk] at h4
              exact h3 h4
            · exact h2
            · exfalso
              have := fndP_lt L k i hiL h2
              rw [← hx, hxk] at this
              omega
          have hh : hasP L k = true := by
            unfold hasP
            simp only [hf]
            rw [dif_pos hiL, ← hx]
            exact decide_eq_true hxk
          rw [HR.out, findP, if_pos hh, hf]
        clear hx hxk HX hiL hin
        go_wp2_with fail
        go_ret
        exact ⟨by rw [hri]; rfl, rfl⟩
      · have hB : (x == k) = false := by simp [hxk]
        have hno2 : Hid (∀ j (hj : j < L.length), j < i + 1 → L[j].1 ≠ k) := Lib.hid fun j hj hj2 => by
          rcases Nat.lt_or_ge j i with h1 | h1
          · exact hno.out j hj h1
          · obtain rfl : j = i := by omega
            rw [← hx]; exact hxk
        clear hx hxk HX hiL hin
        go_wp2_with fail
        go_roundw
        case rel => exact ⟨i + 1, by omega, rfl, trivial, hno2⟩
        case measure => simp only [intOf]; omega
    · obtain rfl : i = n := by omega
      have hinI : ¬ (i : Int) < (i : Int) := by omega
      have hri : r = -1 := by
        have hh : ¬ hasP L k = true := by
          intro hh
          unfold hasP at hh
          split at hh
          · rename_i h2
            exact hno.out _ h2 (by rw [HN.out]; exact h2) (of_decide_eq_true hh)
          · cases hh
        rw [HR.out, findP, if_neg hh]
      clear hin
      go_wp2_with fail
      go_ret
      first | exact ⟨by rw [hri]; rfl, rfl⟩ | exact ⟨rfl, rfl⟩
theorem qfind_spec {W w : World} {A : Assn} (q : Nat) (L : PrL) (k : Int) (ha : AscP L) (h : Sat W w (sep (isQM q L) A)) (hl : L.length ≤ 4000) :
    Calls Tryd.prog 14 #[.pointer (some ⟨q, 0, none⟩), .int .i64 k] w fun e w' => e = .returned (.int .i64 (findP L k)) ∧ w' = w := by
  obtain ⟨a, c, cells, h0⟩ := isQM_open h
  refine qfind_core q L k ha hl a c (h0.cell 0) fun i hi => ?_
  obtain ⟨g, b, d, rfl, g0, -⟩ := qm_cells h0.drop i hi
  exact ⟨g, 0, rfl, by rw [Nat.zero_add]; exact g0⟩
/-! ### a map that no longer changes -/
def qmR (I : Mem) (q : Nat) (L : PrL) : Prop := ∃ a c, I q = some (.cells #[.slice a L.length c] 29 (0, 0)) ∧ (rPairQ.slice 2).rel I [.slice a L.length c] L
theorem qmR.mono {I J : Mem} {q : Nat} {L : PrL} (h : Mem.le I J) (hq : qmR I q L) : qmR J q L := by
  obtain ⟨a, c, h1, h2⟩ := hq
  exact ⟨a, c, h _ _ h1, (rPairQ.slice 2).mono h h2⟩
theorem qm_settle {W w : World} {A : Assn} {I : Mem} {q : Nat} {L : PrL} (h : Sat W w (sep (isQM q L) (sep (kn I) A))) : ∃ J, Mem.le I J ∧ qmR J q L ∧ Sat W w (sep (kn J) A) := by
  obtain ⟨a, c, cells, h0⟩ := isQM_open h
  have h1 : Sat W w (sep (osl 34 2 a L.length c cells) (sep ((rPairQ.rows 2).is cells L) (sep (kn I) (sep (blk q (.cells #[.slice a L.length c] 29 (0, 0))) A)))) := by
    simpa only [sep_comm, sep_lcomm, sep_assoc] using h0
  obtain ⟨J1, hJ1, hr, h2⟩ := (h1.slice_of_osl (R := rPairQ) (k := 2) rfl).learn
  obtain ⟨J2, hJ2, hb, h3⟩ := (show Sat W w (sep (imm q (.cells #[.slice a L.length c] 29 (0, 0))) (sep (kn J1) A)) from h2.p1.settle).learn
  exact ⟨J2, Mem.le_trans hJ1 hJ2, ⟨a, c, hb, (rPairQ.slice 2).mono hJ2 hr⟩, h3⟩
/-- What a settled map's cells hold. -/
theorem qm_look {W w : World} {A : Assn} {I : Mem} {q : Nat} {L : PrL} (hq : qmR I q L) (h : Sat W w (sep (kn I) A)) : ∃ a c, w.cell? ⟨q, 0, none⟩ = some (.slice a L.length c) ∧ (rPairQ.slice 2).rel I [.slice a L.length c] L := by
  obtain ⟨a, c, h1, h2⟩ := hq
  exact ⟨a, c, cell_of_row w q 0 _ _ _ (h.ext _ _ h1), h2⟩
theorem qfind_kn {W w : World} {A : Assn} {I : Mem} (q : Nat) (L : PrL) (k : Int) (ha : AscP L) (hq : qmR I q L) (h : Sat W w (sep (kn I) A)) (hl : L.length ≤ 4000) :
    Calls Tryd.prog 14 #[.pointer (some ⟨q, 0, none⟩), .int .i64 k] w fun e w' => e = .returned (.int .i64 (findP L k)) ∧ w' = w := by
  obtain ⟨a, c, h1, h2⟩ := qm_look hq h
  refine qfind_core q L k ha hl a c h1 fun i hi => ?_
  obtain ⟨b, o, va, vc, rfl, g0, -⟩ := pair_at h h2 i hi
  exact ⟨b, o, rfl, g0⟩
theorem lk_find {L : PrL} (ha : AscP L) (k : Int) : (findP L k < 0) ↔ lkP L k = none := by
  unfold findP
  rw [hasP_lk ha k]
  cases h : lkP L k with
  | none => simp
  | some v => simp
end Go.Proofs.YtcmjbjlliehdiaaDoor
/- The disk in plain. No program in sight. -/
namespace PA
open Go
abbrev File := List UInt8 × Nat
def dset (fs : Nat → File) (n : Nat) (x : File) : Nat → File := fun j => if j = n then x else fs j
def noFiles : Nat → File := fun _ => ([], 0)
/-- The sum over the files. -/
def sumTo (g : Nat → Nat) : Nat → Nat
  | 0 => 0
  | n + 1 => sumTo g n + g n
theorem sumTo_congr {g h : Nat → Nat} : ∀ {n : Nat}, (∀ j, j < n → g j = h j) → sumTo g n = sumTo h n
  | 0, _ => rfl
  | n + 1, e => by rw [sumTo, sumTo, sumTo_congr (n := n) (fun j hj => e j (by omega)), e n (by omega)]
theorem sumTo_one {g h : Nat → Nat} {k : Nat} : ∀ {n : Nat}, k < n → (∀ j, j ≠ k → g j = h j) → sumTo g n + h k = sumTo h n + g k
  | 0, hk, _ => by omega
  | n + 1, hk, e => by
    rw [sumTo, sumTo]
    by_cases hkn : k = n
    · subst hkn
      rw [sumTo_congr (g := g) (h := h) (fun j hj => e j (by omega))]
      omega
    · have := sumTo_one (n := n) (by omega) e
      have := e n (fun h => hkn h.symm)
      omega
theorem sumTo_le {g h : Nat → Nat} : ∀ {n : Nat}, (∀ j, g j ≤ h j) → sumTo g n ≤ sumTo h n
  | 0, _ => Nat.le_refl _
  | n + 1, e => Nat.add_le_add (sumTo_le (n := n) e) (e n)
theorem sumTo_ge {g : Nat → Nat} {k : Nat} : ∀ {n : Nat}, k < n → g k ≤ sumTo g n
  | 0, h => by omega
  | n + 1, h => by
    rw [sumTo]
    by_cases e : k = n
    · subst e; omega
    · have := sumTo_ge (g := g) (k := k) (n := n) (by omega); omega
structure DSt where
  room : Nat
  fs : Nat → File
  off : Bool
  plan : Option Nat
def usedF (fs : Nat → File) : Nat := sumTo (fun j => (fs j).1.length) 64
def DSt.used (s : DSt) : Nat := usedF s.fs
structure DSt.ok (s : DSt) : Prop where
  dur : ∀ j, (s.fs j).2 ≤ (s.fs j).1.length
  hi : ∀ j, 64 ≤ j → s.fs j = ([], 0)
  fit : s.used ≤ s.room
  room : s.room ≤ 16777216
  plan : ∀ q, s.plan = some q → q ≤ 9223372036854775807
def DSt.step (s : DSt) : Bool × DSt := match s.plan with
  | none => (true, s)
  | some 0 => (false, { s with off := true, plan := none })
  | some (q + 1) => (true, { s with plan := some q })
def DSt.put (s : DSt) (n : Nat) (x : File) : DSt := { s with fs := dset s.fs n x }
def fileAt (fs : Nat → File) (n : Int) : File := if 0 ≤ n then fs n.toNat else ([], 0)
def DSt.app (s : DSt) (n : Nat) (b : List UInt8) : DSt := s.put n ((s.fs n).1 ++ b, (s.fs n).2)
def appendD (s : DSt) (n : Int) (b : List UInt8) : Int × DSt :=
  if n < 0 ∨ 64 ≤ n then (1, s) else if s.off then (19, s) else if s.room < s.used + b.length then (18, s)
  else (if (s.app n.toNat b).step.1 then 0 else 19, (s.app n.toNat b).step.2)
def readD (s : DSt) (n : Int) : List UInt8 × Int := if n < 0 ∨ 64 ≤ n then ([], 1) else if s.off then ([], 19) else ((s.fs n.toNat).1, 0)
def DSt.hard (s : DSt) : DSt := { s with fs := fun j => ((s.fs j).1, (s.fs j).1.length) }
def syncD (s : DSt) : Int × DSt := if s.off then (19, s) else if s.step.1 then (0, s.step.2.hard) else (19, s.step.2)
def truncD (s : DSt) (n size : Int) : Int × DSt :=
  if n < 0 ∨ 64 ≤ n ∨ size < 0 ∨ ((fileAt s.fs n).1.length : Int) < size then (1, s) else if s.off then (19, s)
  else if s.step.1 then (0, s.step.2.put n.toNat ((s.fs n.toNat).1.take size.toNat, min (s.fs n.toNat).2 size.toNat)) else (19, s.step.2)
def armD (s : DSt) (n : Int) : DSt := if s.off then s else { s with plan := if 0 ≤ n then some n.toNat else none }
def newD (room : Nat) : DSt := ⟨room, noFiles, false, none⟩
theorem usedF_put {fs : Nat → File} {n : Nat} {x : File} (hn : n < 64) : usedF (dset fs n x) + (fs n).1.length = usedF fs + x.1.length := by
  have := sumTo_one (g := fun j => (dset fs n x j).1.length) (h := fun j => (fs j).1.length) (k := n) (n := 64) hn (fun j hj => by simp [dset, hj])
  simpa [usedF, dset] using this
theorem used_ge {fs : Nat → File} {n : Nat} (hn : n < 64) : (fs n).1.length ≤ usedF fs := sumTo_ge (g := fun j => (fs j).1.length) hn
theorem newD_ok {room : Nat} (h : room ≤ 16777216) : (newD room).ok := by
  refine ⟨fun j => Nat.le_refl _, fun j _ => rfl, ?_, h, fun q hq => by cases hq⟩
  have : ∀ n, sumTo (fun _ => 0) n = 0 := fun n => by
    induction n with
    | zero => rfl
    | succ n ih => rw [sumTo, ih]
  show sumTo (fun _ => 0) 64 ≤ room
  rw [this]; omega
theorem DSt.ok.step {s : DSt} (h : s.ok) : s.step.2.ok := by
  obtain ⟨h1, h2, h3, h4, h5⟩ := h
  unfold DSt.step
  split
  · exact ⟨h1, h2, h3, h4, h5⟩
  · exact ⟨h1, h2, h3, h4, fun q hq => by cases hq⟩
  · rename_i q hq
    exact ⟨h1, h2, h3, h4, fun r hr => by
      have := h5 _ hq
      simp only [Option.some.injEq] at hr
      omega⟩
theorem DSt.ok.put {s : DSt} (h : s.ok) {n : Nat} (hn : n < 64) {x : File} (hx : x.2 ≤ x.1.length) (hu : s.used + x.1.length ≤ s.room + (s.fs n).1.length) : (s.put n x).ok := by
  obtain ⟨h1, h2, h3, h4, h5⟩ := h
  refine ⟨fun j => ?_, fun j hj => ?_, ?_, h4, h5⟩
  · show (dset s.fs n x j).2 ≤ (dset s.fs n x j).1.length
    unfold dset; split
    · exact hx
    · exact h1 j
  · show dset s.fs n x j = _
    unfold dset; rw [if_neg (by omega)]; exact h2 j hj
  · have := usedF_put (fs := s.fs) (x := x) hn
    show usedF (dset s.fs n x) ≤ s.room
    unfold DSt.used at hu
    omega
theorem DSt.step_fs (s : DSt) : s.step.2.fs = s.fs ∧ s.step.2.room = s.room := by unfold DSt.step; split <;> exact ⟨rfl, rfl⟩
theorem DSt.ok.hard {s : DSt} (h : s.ok) : s.hard.ok := by
  obtain ⟨h1, h2, h3, h4, h5⟩ := h
  refine ⟨fun j => Nat.le_refl _, fun j hj => ?_, h3, h4, h5⟩
  show ((s.fs j).1, (s.fs j).1.length) = _
  rw [h2 j hj]; rfl
theorem DSt.ok.nil {s : DSt} (h : s.ok) {n : Nat} (hn : (s.fs n).1 = []) : s.fs n = ([], 0) := by
  have := h.dur n
  rw [hn] at this
  exact Prod.ext hn (by simpa using this)
end PA
