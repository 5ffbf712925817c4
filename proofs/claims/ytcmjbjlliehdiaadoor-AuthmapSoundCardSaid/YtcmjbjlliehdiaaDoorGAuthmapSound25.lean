/- The reference's map: Find. -/
import Derived.Test.YtcmjbjlliehdiaaDoorGAuthmapSoundSQs
import Derived.Test.YtcmjbjlliehdiaaDoorGAuthmapSoundSVal
namespace PA
open Go
theorem AscP.lt {L : PrL} (h : AscP L) {i j : Nat} (hi : i < L.length) (hj : j < L.length) (hij : i < j) : L[i].1 < L[j].1 := by
  have := List.pairwise_iff_getElem.1 h i j (by simpa using hi) (by simpa using hj) hij
  simpa using this
/-- Where the key is found. -/
def findP (L : PrL) (k : Int) : Int := if hasP L k = true then (fndP L k : Nat) else -1
end PA
namespace Go.Proofs.YtcmjbjlliehdiaaDoor
open Go.RowKit PA
set_option maxRecDepth 100000 in
set_option maxHeartbeats 4000000 in
theorem qfind_core {w : World} (q : Nat) (L : PrL) (k : Int) (ha : AscP L) (hl : L.length ≤ 4000) (a : Option Addr) (c : Nat) (c00 : w.cell? ⟨q, 0, none⟩ = some (.slice a L.length c))
    (hc : ∀ i (hi : i < L.length), ∃ g o, a = some ⟨g, o, none⟩ ∧ w.cell? ⟨g, o + i * 2, none⟩ = some (.int .i64 L[i].1)) :
    Calls Tryd.prog 14 #[.pointer (some ⟨q, 0, none⟩), .int .i64 k] w fun e w' => e = .returned (.int .i64 (findP L k)) ∧ w' = w := by
  obtain ⟨n, hn⟩ : ∃ n, n = L.length := ⟨_, rfl⟩
  have c0 : w.cell? ⟨q, 0, none⟩ = some (.slice a n c) := by rw [hn]; exact c00
  have HC := Lib.hid hc
  have HN := Lib.hid hn
  have HA := Lib.hid ha
  have hnl : n ≤ 4000 := by omega
  obtain ⟨r, hr⟩ : ∃ r, r = findP L k := ⟨_, rfl⟩
  rw [← hr]
  have HR := Lib.hid hr
  clear c00 hc hn ha hl hr
  go_enter Tryd.func14, Tryd.ntmps14
  go_wp2
  go_loopw [5] (fun iv' wr => ∃ i : Nat, i ≤ n ∧ iv' = .int .i64 (i : Nat) ∧ wr = w ∧ Hid (∀ j (hj : j < L.length), j < i → L[j].1 ≠ k)) (fun iv' _ => n - (intOf iv').toNat)
  case atStart => exact ⟨0, by omega, rfl, rfl, Lib.hid fun j _ hj => by omega⟩
  case round =>
    obtain ⟨i, hi, rfl, rfl, hno⟩ := hrel
    by_cases hin : i < n
    · have hiL : i < L.length := by rw [← HN.out]; exact hin
      obtain ⟨g, o, rfl, g0⟩ := HC.out i hiL
      obtain ⟨x, hx⟩ : ∃ x, x = L[i].1 := ⟨_, rfl⟩
      rw [← hx] at g0
      have HX := Lib.hid hx
      have hinI : (i : Int) < (n : Int) := by omega
      by_cases hxk : x = k
      · have hB : (x == k) = true := by simp [hxk]
        have hri : r = (i : Int) := by
          have hf : fndP L k = i := by
            have h1 := fndP_le L k
            rcases Nat.lt_trichotomy (fndP L k) i with h2 | h2 | h2
            · exfalso
              have h3 := fndP_ge L k (by omega)
              have h4 := HA.out.lt (i := fndP L k) (by omega) hiL h2
              rw [← hx, hxk] at h4
              exact h3 h4
            · exact h2
            · exfalso
              have := fndP_lt L k i hiL h2
              rw [← hx, hxk] at this
              omega
          have hh : hasP L k = true := by
            unfold hasP
            simp only [hf]
            rw [dif_pos hiL, ← hx]
            exact decide_eq_true hxk
          rw [HR.out, findP, if_pos hh, hf]
        clear hx hxk HX hiL hin
        go_wp2_with fail
        go_ret
        exact ⟨by rw [hri]; rfl, rfl⟩
      · have hB : (x == k) = false := by simp [hxk]
        have hno2 : Hid (∀ j (hj : j < L.length), j < i + 1 → L[j].1 ≠ k) := Lib.hid fun j hj hj2 => by
          rcases Nat.lt_or_ge j i with h1 | h1
          · exact hno.out j hj h1
          · obtain rfl : j = i := by omega
            rw [← hx]; exact hxk
        clear hx hxk HX hiL hin
        go_wp2_with fail
        go_roundw
        case rel => exact ⟨i + 1, by omega, rfl, trivial, hno2⟩
        case measure => simp only [intOf]; omega
    · obtain rfl : i = n := by omega
      have hinI : ¬ (i : Int) < (i : Int) := by omega
      have hri : r = -1 := by
        have hh : ¬ hasP L k = true := by
          intro hh
          unfold hasP at hh
          split at hh
          · rename_i h2
            exact hno.out _ h2 (by rw [HN.out]; exact h2) (of_decide_eq_true hh)
          · cases hh
        rw [HR.out, findP, if_neg hh]
      clear hin
      go_wp2_with fail
      go_ret
      first | exact ⟨by rw [hri]; rfl, rfl⟩ | exact ⟨rfl, rfl⟩
theorem qfind_spec {W w : World} {A : Assn} (q : Nat) (L : PrL) (k : Int) (ha : AscP L) (h : Sat W w (sep (isQM q L) A)) (hl : L.length ≤ 4000) :
    Calls Tryd.prog 14 #[.pointer (some ⟨q, 0, none⟩), .int .i64 k] w fun e w' => e = .returned (.int .i64 (findP L k)) ∧ w' = w := by
  obtain ⟨a, c, cells, h0⟩ := isQM_open h
  refine qfind_core q L k ha hl a c (h0.cell 0) fun i hi => ?_
  obtain ⟨g, b, d, rfl, g0, -⟩ := qm_cells h0.drop i hi
  exact ⟨g, 0, rfl, by rw [Nat.zero_add]; exact g0⟩
/-! ### a map that no longer changes -/
def qmR (I : Mem) (q : Nat) (L : PrL) : Prop := ∃ a c, I q = some (.cells #[.slice a L.length c] 29 (0, 0)) ∧ (rPairQ.slice 2).rel I [.slice a L.length c] L
theorem qmR.mono {I J : Mem} {q : Nat} {L : PrL} (h : Mem.le I J) (hq : qmR I q L) : qmR J q L := by
  obtain ⟨a, c, h1, h2⟩ := hq
  exact ⟨a, c, h _ _ h1, (rPairQ.slice 2).mono h h2⟩
theorem qm_settle {W w : World} {A : Assn} {I : Mem} {q : Nat} {L : PrL} (h : Sat W w (sep (isQM q L) (sep (kn I) A))) : ∃ J, Mem.le I J ∧ qmR J q L ∧ Sat W w (sep (kn J) A) := by
  obtain ⟨a, c, cells, h0⟩ := isQM_open h
  have h1 : Sat W w (sep (osl 34 2 a L.length c cells) (sep ((rPairQ.rows 2).is cells L) (sep (kn I) (sep (blk q (.cells #[.slice a L.length c] 29 (0, 0))) A)))) := by
    simpa only [sep_comm, sep_lcomm, sep_assoc] using h0
  obtain ⟨J1, hJ1, hr, h2⟩ := (h1.slice_of_osl (R := rPairQ) (k := 2) rfl).learn
  obtain ⟨J2, hJ2, hb, h3⟩ := (show Sat W w (sep (imm q (.cells #[.slice a L.length c] 29 (0, 0))) (sep (kn J1) A)) from h2.p1.settle).learn
  exact ⟨J2, Mem.le_trans hJ1 hJ2, ⟨a, c, hb, (rPairQ.slice 2).mono hJ2 hr⟩, h3⟩
/-- What a settled map's cells hold. -/
theorem qm_look {W w : World} {A : Assn} {I : Mem} {q : Nat} {L : PrL} (hq : qmR I q L) (h : Sat W w (sep (kn I) A)) : ∃ a c, w.cell? ⟨q, 0, none⟩ = some (.slice a L.length c) ∧ (rPairQ.slice 2).rel I [.slice a L.length c] L := by
  obtain ⟨a, c, h1, h2⟩ := hq
  exact ⟨a, c, cell_of_row w q 0 _ _ _ (h.ext _ _ h1), h2⟩
theorem qfind_kn {W w : World} {A : Assn} {I : Mem} (q : Nat) (L : PrL) (k : Int) (ha : AscP L) (hq : qmR I q L) (h : Sat W w (sep (kn I) A)) (hl : L.length ≤ 4000) :
    Calls Tryd.prog 14 #[.pointer (some ⟨q, 0, none⟩), .int .i64 k] w fun e w' => e = .returned (.int .i64 (findP L k)) ∧ w' = w := by
  obtain ⟨a, c, h1, h2⟩ := qm_look hq h
  refine qfind_core q L k ha hl a c h1 fun i hi => ?_
  obtain ⟨b, o, va, vc, rfl, g0, -⟩ := pair_at h h2 i hi
  exact ⟨b, o, rfl, g0⟩
theorem lk_find {L : PrL} (ha : AscP L) (k : Int) : (findP L k < 0) ↔ lkP L k = none := by
  unfold findP
  rw [hasP_lk ha k]
  cases h : lkP L k with
  | none => simp
  | some v => simp
end Go.Proofs.YtcmjbjlliehdiaaDoor
/- The disk in plain. No program in sight. -/
namespace PA
open Go
abbrev File := List UInt8 × Nat
def dset (fs : Nat → File) (n : Nat) (x : File) : Nat → File := fun j => if j = n then x else fs j
def noFiles : Nat → File := fun _ => ([], 0)
/-- The sum over the files. -/
def sumTo (g : Nat → Nat) : Nat → Nat
  | 0 => 0
  | n + 1 => sumTo g n + g n
theorem sumTo_congr {g h : Nat → Nat} : ∀ {n : Nat}, (∀ j, j < n → g j = h j) → sumTo g n = sumTo h n
  | 0, _ => rfl
  | n + 1, e => by rw [sumTo, sumTo, sumTo_congr (n := n) (fun j hj => e j (by omega)), e n (by omega)]
theorem sumTo_one {g h : Nat → Nat} {k : Nat} : ∀ {n : Nat}, k < n → (∀ j, j ≠ k → g j = h j) → sumTo g n + h k = sumTo h n + g k
  | 0, hk, _ => by omega
  | n + 1, hk, e => by
    rw [sumTo, sumTo]
    by_cases hkn : k = n
    · subst hkn
      rw [sumTo_congr (g := g) (h := h) (fun j hj => e j (by omega))]
      omega
    · have := sumTo_one (n := n) (by omega) e
      have := e n (fun h => hkn h.symm)
      omega
theorem sumTo_le {g h : Nat → Nat} : ∀ {n : Nat}, (∀ j, g j ≤ h j) → sumTo g n ≤ sumTo h n
  | 0, _ => Nat.le_refl _
  | n + 1, e => Nat.add_le_add (sumTo_le (n := n) e) (e n)
theorem sumTo_ge {g : Nat → Nat} {k : Nat} : ∀ {n : Nat}, k < n → g k ≤ sumTo g n
  | 0, h => by omega
  | n + 1, h => by
    rw [sumTo]
    by_cases e : k = n
    · subst e; omega
    · have := sumTo_ge (g := g) (k := k) (n := n) (by omega); omega
structure DSt where
  room : Nat
  fs : Nat → File
  off : Bool
  plan : Option Nat
def usedF (fs : Nat → File) : Nat := sumTo (fun j => (fs j).1.length) 64
def DSt.used (s : DSt) : Nat := usedF s.fs
structure DSt.ok (s : DSt) : Prop where
  dur : ∀ j, (s.fs j).2 ≤ (s.fs j).1.length
  hi : ∀ j, 64 ≤ j → s.fs j = ([], 0)
  fit : s.used ≤ s.room
  room : s.room ≤ 16777216
  plan : ∀ q, s.plan = some q → q ≤ 9223372036854775807
def DSt.step (s : DSt) : Bool × DSt := match s.plan with
  | none => (true, s)
  | some 0 => (false, { s with off := true, plan := none })
  | some (q + 1) => (true, { s with plan := some q })
def DSt.put (s : DSt) (n : Nat) (x : File) : DSt := { s with fs := dset s.fs n x }
def fileAt (fs : Nat → File) (n : Int) : File := if 0 ≤ n then fs n.toNat else ([], 0)
def DSt.app (s : DSt) (n : Nat) (b : List UInt8) : DSt := s.put n ((s.fs n).1 ++ b, (s.fs n).2)
def appendD (s : DSt) (n : Int) (b : List UInt8) : Int × DSt :=
  if n < 0 ∨ 64 ≤ n then (1, s) else if s.off then (19, s) else if s.room < s.used + b.length then (18, s)
  else (if (s.app n.toNat b).step.1 then 0 else 19, (s.app n.toNat b).step.2)
def readD (s : DSt) (n : Int) : List UInt8 × Int := if n < 0 ∨ 64 ≤ n then ([], 1) else if s.off then ([], 19) else ((s.fs n.toNat).1, 0)
def DSt.hard (s : DSt) : DSt := { s with fs := fun j => ((s.fs j).1, (s.fs j).1.length) }
def syncD (s : DSt) : Int × DSt := if s.off then (19, s) else if s.step.1 then (0, s.step.2.hard) else (19, s.step.2)
def truncD (s : DSt) (n size : Int) : Int × DSt :=
  if n < 0 ∨ 64 ≤ n ∨ size < 0 ∨ ((fileAt s.fs n).1.length : Int) < size then (1, s) else if s.off then (19, s)
  else if s.step.1 then (0, s.step.2.put n.toNat ((s.fs n.toNat).1.take size.toNat, min (s.fs n.toNat).2 size.toNat)) else (19, s.step.2)
def armD (s : DSt) (n : Int) : DSt := if s.off then s else { s with plan := if 0 ≤ n then some n.toNat else none }
def newD (room : Nat) : DSt := ⟨room, noFiles, false, none⟩
theorem usedF_put {fs : Nat → File} {n : Nat} {x : File} (hn : n < 64) : usedF (dset fs n x) + (fs n).1.length = usedF fs + x.1.length := by
  have := sumTo_one (g := fun j => (dset fs n x j).1.length) (h := fun j => (fs j).1.length) (k := n) (n := 64) hn (fun j hj => by simp [dset, hj])
  simpa [usedF, dset] using this
theorem used_ge {fs : Nat → File} {n : Nat} (hn : n < 64) : (fs n).1.length ≤ usedF fs := sumTo_ge (g := fun j => (fs j).1.length) hn
theorem newD_ok {room : Nat} (h : room ≤ 16777216) : (newD room).ok := by
  refine ⟨fun j => Nat.le_refl _, fun j _ => rfl, ?_, h, fun q hq => by cases hq⟩
  have : ∀ n, sumTo (fun _ => 0) n = 0 := fun n => by
    induction n with
    | zero => rfl
    | succ n ih => rw [sumTo, ih]
  show sumTo (fun _ => 0) 64 ≤ room
  rw [this]; omega
theorem DSt.ok.step {s : DSt} (h : s.ok) : s.step.2.ok := by
  obtain ⟨h1, h2, h3, h4, h5⟩ := h
  unfold DSt.step
  split
  · exact ⟨h1, h2, h3, h4, h5⟩
  · exact ⟨h1, h2, h3, h4, fun q hq => by cases hq⟩
  · rename_i q hq
    exact ⟨h1, h2, h3, h4, fun r hr => by
      have := h5 _ hq
      simp only [Option.some.injEq] at hr
      omega⟩
theorem DSt.ok.put {s : DSt} (h : s.ok) {n : Nat} (hn : n < 64) {x : File} (hx : x.2 ≤ x.1.length) (hu : s.used + x.1.length ≤ s.room + (s.fs n).1.length) : (s.put n x).ok := by
  obtain ⟨h1, h2, h3, h4, h5⟩ := h
  refine ⟨fun j => ?_, fun j hj => ?_, ?_, h4, h5⟩
  · show (dset s.fs n x j).2 ≤ (dset s.fs n x j).1.length
    unfold dset; split
    · exact hx
    · exact h1 j
  · show dset s.fs n x j = _
    unfold dset; rw [if_neg (by omega)]; exact h2 j hj
  · have := usedF_put (fs := s.fs) (x := x) hn
    show usedF (dset s.fs n x) ≤ s.room
    unfold DSt.used at hu
    omega
theorem DSt.step_fs (s : DSt) : s.step.2.fs = s.fs ∧ s.step.2.room = s.room := by unfold DSt.step; split <;> exact ⟨rfl, rfl⟩
theorem DSt.ok.hard {s : DSt} (h : s.ok) : s.hard.ok := by
  obtain ⟨h1, h2, h3, h4, h5⟩ := h
  refine ⟨fun j => Nat.le_refl _, fun j hj => ?_, h3, h4, h5⟩
  show ((s.fs j).1, (s.fs j).1.length) = _
  rw [h2 j hj]; rfl
theorem DSt.ok.nil {s : DSt} (h : s.ok) {n : Nat} (hn : (s.fs n).1 = []) : s.fs n = ([], 0) := by
  have := h.dur n
  rw [hn] at this
  exact Prod.ext hn (by simpa using this)
end PA
/- The disk in plain: the files in order, an inverted bit, a crash. No program in sight. -/
namespace PA
open Go
/-- The numbers of the files that are not empty, ascending. -/
def filesD (fs : Nat → File) : List Nat := (List.range 64).filter fun j => !(fs j).1.isEmpty
theorem mem_filesD {fs : Nat → File} {j : Nat} : j ∈ filesD fs ↔ j < 64 ∧ (fs j).1 ≠ [] := by
  simp [filesD]
theorem filesD_sorted (fs : Nat → File) : (filesD fs).Pairwise (· < ·) := List.Pairwise.filter _ List.pairwise_lt_range
theorem filesD_nodup (fs : Nat → File) : (filesD fs).Nodup := (filesD_sorted fs).imp fun h => Nat.ne_of_lt h
theorem filesD_len (fs : Nat → File) : (filesD fs).length ≤ 64 := by
  have := List.length_filter_le (fun j => !(fs j).1.isEmpty) (List.range 64)
  simpa [filesD] using this
/-- Two ascending lists with the same members are one. -/
theorem asc_unique : ∀ {l m : List Int}, l.Pairwise (· < ·) → m.Pairwise (· < ·) → (∀ k, k ∈ l ↔ k ∈ m) → l = m
  | [], [], _, _, _ => rfl
  | [], y :: m, _, _, h => absurd ((h y).2 (by simp)) (by simp)
  | x :: l, [], _, _, h => absurd ((h x).1 (by simp)) (by simp)
  | x :: l, y :: m, h1, h2, h => by
    have g1 := List.pairwise_cons.1 h1
    have g2 := List.pairwise_cons.1 h2
    have e : x = y := by
      rcases List.mem_cons.1 ((h x).1 (by simp)) with e | e
      · exact e
      · rcases List.mem_cons.1 ((h y).2 (by simp)) with e' | e'
        · exact e'.symm
        · have a1 := g2.1 x e; have a2 := g1.1 y e'; omega
    subst e
    rw [asc_unique g1.2 g2.2 fun k => ?_]
    constructor
    · intro hk
      rcases List.mem_cons.1 ((h k).1 (List.mem_cons_of_mem _ hk)) with e | e
      · have := g1.1 k hk; omega
      · exact e
    · intro hk
      rcases List.mem_cons.1 ((h k).2 (List.mem_cons_of_mem _ hk)) with e | e
      · have := g2.1 k hk; omega
      · exact e
theorem filesD_iv (fs : Nat → File) : ((filesD fs).map fun j : Nat => (j : Int)).Pairwise (· < ·) := by
  rw [List.pairwise_map]
  exact (filesD_sorted fs).imp fun h => by omega
/-- Distinct numbers below n: at most n. -/
theorem nodup_below : ∀ (n : Nat) (l : List Nat), l.Nodup → (∀ x ∈ l, x < n) → l.length ≤ n
  | 0, l, _, h => by cases l with
    | nil => simp
    | cons x l => exact absurd (h x (by simp)) (by omega)
  | n + 1, l, hn, h => by
    by_cases hm : n ∈ l
    · have := nodup_below n (l.erase n) (hn.erase n) (fun x hx => by
        have h1 := (hn.mem_erase_iff).1 hx
        have := h x h1.2
        have := h1.1
        omega)
      rw [List.length_erase_of_mem hm] at this
      omega
    · have := nodup_below n l hn (fun x hx => by
        have := h x hx
        have : x ≠ n := fun e => hm (by rw [← e]; exact hx)
        omega)
      omega
def flipB (x : UInt8) (k : Nat) : UInt8 := UInt8.ofNat (x.toNat ^^^ 2 ^ (7 - k))
theorem flipB_toNat (x : UInt8) (k : Nat) : (flipB x k).toNat = x.toNat ^^^ 2 ^ (7 - k) := by
  have h1 : 2 ^ (7 - k) < 2 ^ 8 := Nat.pow_lt_pow_right (by omega) (by omega)
  have h2 : x.toNat ^^^ 2 ^ (7 - k) < 2 ^ 8 := Nat.xor_lt_two_pow x.toNat_lt h1
  rw [flipB, UInt8.toNat_ofNat']
  exact Nat.mod_eq_of_lt h2
theorem flipB_twice (x : UInt8) (k : Nat) : flipB (flipB x k) k = x := by
  apply UInt8.toNat_inj.1
  rw [flipB_toNat, flipB_toNat, Nat.xor_assoc, Nat.xor_self, Nat.xor_zero]
theorem flipB_ne (x : UInt8) (k : Nat) : flipB x k ≠ x := fun h => by
  have h1 := flipB_toNat x k
  rw [h] at h1
  have h2 : x.toNat ^^^ (x.toNat ^^^ 2 ^ (7 - k)) = 0 := by rw [← h1, Nat.xor_self]
  rw [← Nat.xor_assoc, Nat.xor_self, Nat.zero_xor] at h2
  have := Nat.two_pow_pos (7 - k)
  omega
/-- Bit i of the bytes inverted. -/
def flipAt (bs : List UInt8) (i : Nat) : List UInt8 := bs.modify (i / 8) fun x => flipB x (i % 8)
theorem flipAt_len (bs : List UInt8) (i : Nat) : (flipAt bs i).length = bs.length := by simp [flipAt]
theorem flipAt_twice (bs : List UInt8) (i : Nat) : flipAt (flipAt bs i) i = bs := by
  apply List.ext_getElem
  · simp [flipAt]
  · intro j h1 h2
    simp only [flipAt, List.getElem_modify]
    split
    · exact flipB_twice _ _
    · rfl
def rotD (s : DSt) (n bit : Int) : Int × DSt :=
  if n < 0 ∨ 64 ≤ n ∨ bit < 0 ∨ (fileAt s.fs n).1.length ≤ bit.toNat / 8 then (1, s)
  else (0, s.put n.toNat (flipAt (s.fs n.toNat).1 bit.toNat, (s.fs n.toNat).2))
/-! ### a crash -/
def keptD (x : File) (keep : List Int) (i : Nat) : Nat := match keep[i]? with
  | some k => (max 0 (min k ((x.1.length - x.2 : Nat) : Int))).toNat
  | none => 0
theorem keptD_le (x : File) (keep : List Int) (i : Nat) : keptD x keep i ≤ x.1.length - x.2 := by
  unfold keptD; split <;> omega
def cutF (x : File) (m : Nat) : File := (x.1.take (x.2 + m), x.2)
/-- The files after the first i of ks have been cut. -/
def cutN (fs : Nat → File) (ks : List Nat) (keep : List Int) : Nat → Nat → File
  | 0 => fs
  | i + 1 => match ks[i]? with
    | some n => dset (cutN fs ks keep i) n (cutF (fs n) (keptD (fs n) keep i))
    | none => cutN fs ks keep i
/-- The loose bytes of the first i of ks: file and place. -/
def looseN (fs : Nat → File) (ks : List Nat) (keep : List Int) : Nat → List (Nat × Nat)
  | 0 => []
  | i + 1 => match ks[i]? with
    | some n => looseN fs ks keep i ++ (List.range (keptD (fs n) keep i)).map fun j => (n, (fs n).2 + j)
    | none => looseN fs ks keep i
def flipL (fs : Nat → File) (lo : List (Nat × Nat)) (flip : Int) : Nat → File :=
  if 0 ≤ flip ∧ lo ≠ [] then match lo[flip.toNat % (8 * lo.length) / 8]? with
    | some (n, j) => dset fs n ((fs n).1.modify j fun x => flipB x (flip.toNat % (8 * lo.length) % 8), (fs n).2)
    | none => fs
  else fs
theorem cutN_some {fs : Nat → File} {ks : List Nat} {keep : List Int} {i n : Nat} (h : ks[i]? = some n) : cutN fs ks keep (i + 1) = dset (cutN fs ks keep i) n (cutF (fs n) (keptD (fs n) keep i)) := by
  rw [cutN, h]
theorem cutN_none {fs : Nat → File} {ks : List Nat} {keep : List Int} {i : Nat} (h : ks[i]? = none) : cutN fs ks keep (i + 1) = cutN fs ks keep i := by
  rw [cutN, h]
theorem looseN_some {fs : Nat → File} {ks : List Nat} {keep : List Int} {i n : Nat} (h : ks[i]? = some n) : looseN fs ks keep (i + 1) = looseN fs ks keep i ++ (List.range (keptD (fs n) keep i)).map fun j => (n, (fs n).2 + j) := by
  rw [looseN, h]
theorem looseN_none {fs : Nat → File} {ks : List Nat} {keep : List Int} {i : Nat} (h : ks[i]? = none) : looseN fs ks keep (i + 1) = looseN fs ks keep i := by
  rw [looseN, h]
theorem flipL_some {fs : Nat → File} {lo : List (Nat × Nat)} {flip : Int} {n j : Nat} (h0 : 0 ≤ flip) (h1 : lo ≠ []) (h : lo[flip.toNat % (8 * lo.length) / 8]? = some (n, j)) :
    flipL fs lo flip = dset fs n ((fs n).1.modify j fun x => flipB x (flip.toNat % (8 * lo.length) % 8), (fs n).2) := by
  rw [flipL, if_pos ⟨h0, h1⟩, h]
theorem flipL_no {fs : Nat → File} {lo : List (Nat × Nat)} {flip : Int} (h : ¬ (0 ≤ flip ∧ lo ≠ [])) : flipL fs lo flip = fs := by
  rw [flipL, if_neg h]
theorem flip_lt {lo : List (Nat × Nat)} (flip : Int) (h1 : lo ≠ []) : flip.toNat % (8 * lo.length) / 8 < lo.length := by
  have : 0 < lo.length := List.length_pos_iff.2 h1
  have := Nat.mod_lt flip.toNat (show 0 < 8 * lo.length by omega)
  omega
def cutD (s : DSt) (keep : List Int) : DSt := { s with fs := cutN s.fs (filesD s.fs) keep (filesD s.fs).length }
def looseD (s : DSt) (keep : List Int) : List (Nat × Nat) := looseN s.fs (filesD s.fs) keep (filesD s.fs).length
def crashD (s : DSt) (keep : List Int) (flip : Int) : DSt :=
  { (({ s with fs := flipL (cutD s keep).fs (looseD s keep) flip } : DSt).hard) with off := false, plan := none }
theorem cutN_notin {fs : Nat → File} {ks : List Nat} {keep : List Int} {n : Nat} : ∀ {i : Nat}, (∀ j, j < i → ks[j]? ≠ some n) → cutN fs ks keep i n = fs n
  | 0, _ => rfl
  | i + 1, h => by
    have ih := cutN_notin (fs := fs) (keep := keep) (i := i) fun j hj => h j (by omega)
    rcases hm : ks[i]? with _ | m
    · rw [cutN_none hm]; exact ih
    · rw [cutN_some hm]
      have : n ≠ m := fun e => h i (by omega) (by rw [hm, e])
      simp [dset, this, ih]
theorem cutN_cases {fs : Nat → File} {ks : List Nat} {keep : List Int} (n : Nat) : ∀ (i : Nat), cutN fs ks keep i n = fs n ∨ ∃ m, m ≤ (fs n).1.length - (fs n).2 ∧ cutN fs ks keep i n = cutF (fs n) m
  | 0 => .inl rfl
  | i + 1 => by
    have ih := cutN_cases (fs := fs) (ks := ks) (keep := keep) n i
    rcases hm : ks[i]? with _ | m
    · rw [cutN_none hm]; exact ih
    · rw [cutN_some hm]
      by_cases e : n = m
      · subst e
        exact .inr ⟨keptD (fs n) keep i, keptD_le _ _ _, by simp [dset]⟩
      · simpa [dset, e] using ih
theorem cutF_len (x : File) (m : Nat) (hx : x.2 ≤ x.1.length) (hm : m ≤ x.1.length - x.2) : (cutF x m).1.length = x.2 + m := by
  simp [cutF]; omega
theorem cutN_ok {s : DSt} (h : s.ok) (ks : List Nat) (keep : List Int) (i : Nat) : ({ s with fs := cutN s.fs ks keep i } : DSt).ok := by
  obtain ⟨h1, h2, h3, h4, h5⟩ := h
  have hle : ∀ j, (cutN s.fs ks keep i j).1.length ≤ (s.fs j).1.length := fun j => by
    rcases cutN_cases (fs := s.fs) (ks := ks) (keep := keep) j i with e | ⟨m, hm, e⟩
    · rw [e]; exact Nat.le_refl _
    · rw [e, cutF_len _ _ (h1 j) hm]; have := h1 j; omega
  refine ⟨fun j => ?_, fun j hj => ?_, ?_, h4, h5⟩
  · show (cutN s.fs ks keep i j).2 ≤ (cutN s.fs ks keep i j).1.length
    rcases cutN_cases (fs := s.fs) (ks := ks) (keep := keep) j i with e | ⟨m, hm, e⟩
    · rw [e]; exact h1 j
    · rw [e, cutF_len _ _ (h1 j) hm]; show (s.fs j).2 ≤ _; omega
  · show cutN s.fs ks keep i j = _
    rcases cutN_cases (fs := s.fs) (ks := ks) (keep := keep) j i with e | ⟨m, hm, e⟩
    · rw [e]; exact h2 j hj
    · rw [e, h2 j hj]; simp [cutF]
  · show usedF (cutN s.fs ks keep i) ≤ s.room
    have : usedF (cutN s.fs ks keep i) ≤ usedF s.fs := sumTo_le hle
    unfold DSt.used at h3
    omega
theorem usedF_congr {f g : Nat → File} (h : ∀ j, (f j).1.length = (g j).1.length) : usedF f = usedF g := sumTo_congr fun j _ => h j
theorem flipL_len (fs : Nat → File) (lo : List (Nat × Nat)) (flip : Int) (j : Nat) : (flipL fs lo flip j).1.length = (fs j).1.length ∧ (flipL fs lo flip j).2 = (fs j).2 := by
  by_cases h : 0 ≤ flip ∧ lo ≠ []
  · have hl := flip_lt flip h.2
    obtain ⟨⟨n, i⟩, hx⟩ : ∃ x, lo[flip.toNat % (8 * lo.length) / 8]? = some x := ⟨_, List.getElem?_eq_getElem hl⟩
    rw [flipL_some h.1 h.2 hx]
    by_cases e : j = n
    · subst e; simp [dset]
    · simp [dset, e]
  · rw [flipL_no h]; exact ⟨rfl, rfl⟩
theorem DSt.ok.alike {s : DSt} (h : s.ok) {fs : Nat → File} (hl : ∀ j, (fs j).1.length = (s.fs j).1.length ∧ (fs j).2 = (s.fs j).2) : ({ s with fs := fs } : DSt).ok := by
  obtain ⟨h1, h2, h3, h4, h5⟩ := h
  refine ⟨fun j => ?_, fun j hj => ?_, ?_, h4, h5⟩
  · show (fs j).2 ≤ (fs j).1.length
    rw [(hl j).1, (hl j).2]; exact h1 j
  · show fs j = _
    have e1 := (hl j).1
    have e2 := (hl j).2
    rw [h2 j hj] at e1 e2
    exact Prod.ext (List.eq_nil_of_length_eq_zero e1) e2
  · show usedF fs ≤ s.room
    rw [usedF_congr fun j => (hl j).1]; exact h3
theorem crashD_ok {s : DSt} (h : s.ok) (keep : List Int) (flip : Int) : (crashD s keep flip).ok := by
  have h1 := (cutN_ok h (filesD s.fs) keep (filesD s.fs).length).alike (fs := flipL (cutD s keep).fs (looseD s keep) flip) (fun j => flipL_len _ _ _ j)
  have h2 := h1.hard
  exact ⟨h2.dur, h2.hi, h2.fit, h2.room, fun q hq => by cases hq⟩
theorem looseN_mono {fs : Nat → File} {ks : List Nat} {keep : List Int} : ∀ {i j : Nat}, i ≤ j → ∃ r, looseN fs ks keep j = looseN fs ks keep i ++ r
  | i, 0, h => by obtain rfl : i = 0 := by omega
                  exact ⟨[], by simp⟩
  | i, j + 1, h => by
    by_cases e : i = j + 1
    · subst e; exact ⟨[], by simp⟩
    · obtain ⟨r, hr⟩ := looseN_mono (fs := fs) (ks := ks) (keep := keep) (i := i) (j := j) (by omega)
      rcases hm : ks[j]? with _ | m
      · rw [looseN_none hm]; exact ⟨r, hr⟩
      · rw [looseN_some hm, hr]; exact ⟨_, List.append_assoc _ _ _⟩
theorem looseN_mem {fs : Nat → File} {ks : List Nat} {keep : List Int} {x : Nat × Nat} : ∀ {i : Nat}, x ∈ looseN fs ks keep i → ∃ j, j < i ∧ ks[j]? = some x.1 ∧ (fs x.1).2 ≤ x.2 ∧ x.2 < (fs x.1).2 + keptD (fs x.1) keep j
  | 0, h => by cases h
  | i + 1, h => by
    unfold looseN at h
    split at h
    · rename_i n hn
      rcases List.mem_append.1 h with h | h
      · obtain ⟨j, h1, h2⟩ := looseN_mem h
        exact ⟨j, by omega, h2⟩
      · obtain ⟨j, hj, rfl⟩ := List.mem_map.1 h
        have := List.mem_range.1 hj
        exact ⟨i, by omega, hn, by show (fs n).2 ≤ (fs n).2 + j; omega, by show (fs n).2 + j < (fs n).2 + keptD (fs n) keep i; omega⟩
    · obtain ⟨j, h1, h2⟩ := looseN_mem h
      exact ⟨j, by omega, h2⟩
end PA
