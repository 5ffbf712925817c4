/- The reference model of package channel: find; what In does to an end, in plain. -/
import Derived.Test.YtnmkdidhilekiaaRm
namespace Go.Proofs.Ytnmkdidhilekiaa
open Go.RowKit PA
def fIdx (l : List (Int × List UInt8)) (q : Int) : Option Nat := l.findIdx? fun x => x.1 == q
def fRes : Option Nat → Int
  | some i => i
  | none => -1
theorem fIdx_some {l : List (Int × List UInt8)} {q : Int} {i : Nat} (h : fIdx l q = some i) : ∃ hi : i < l.length, l[i].1 = q ∧ ∀ j (hj : j < i), l[j].1 ≠ q := by
  obtain ⟨hi, h1, h2⟩ := List.findIdx?_eq_some_iff_getElem.1 h
  exact ⟨hi, by simpa using h1, fun j hj => by simpa using h2 j hj⟩
theorem fIdx_none {l : List (Int × List UInt8)} {q : Int} (h : fIdx l q = none) : ∀ x ∈ l, x.1 ≠ q := by
  intro x hx
  have := List.findIdx?_eq_none_iff.1 h x hx
  simpa using this
theorem fIdx_of {l : List (Int × List UInt8)} {q : Int} {i : Nat} (hi : i < l.length) (h1 : l[i].1 = q) (h2 : ∀ j (hj : j < i), l[j].1 ≠ q) : fIdx l q = some i :=
  List.findIdx?_eq_some_iff_getElem.2 ⟨hi, by simpa using h1, fun j hj => by simpa using h2 j hj⟩
theorem fIdx_of_none {l : List (Int × List UInt8)} {q : Int} (h : ∀ x ∈ l, x.1 ≠ q) : fIdx l q = none :=
  List.findIdx?_eq_none_iff.2 fun x hx => by simpa using h x hx
set_option maxHeartbeats 1000000 in
set_option maxRecDepth 100000 in
theorem rfind_spec {W w : World} {A : Assn} (p : Nat) (m : MEnd) (q : Int) {aS : Option Addr} {cS : Nat} {vS : List Value} {aH : Option Addr} {cH : Nat} {vH : List Value} (h : Sat W w (sep (mAt p m aS cS vS aH cH vH) A)) (hl : m.held.length ≤ 1000) :
    Calls Try.prog 46 #[.pointer (some ⟨p, 0, none⟩), .int .i64 q] w fun e w' => e = .returned (.int .i64 (fRes (fIdx m.held q))) ∧ w' = w := by
  obtain ⟨n, hn⟩ : ∃ n, n = m.held.length := ⟨_, rfl⟩
  have c4 : w.cell? ⟨p, 4, none⟩ = some (.slice aH n cH) := by rw [hn]; simp only [mAt, sep_assoc] at h; exact h.cell 4
  have HN := Lib.hid hn
  have H := Lib.hid h
  rw [← hn] at hl
  clear hn h
  go_enter Try.func46, Try.ntmps46
  go_wp2
  go_loopw [5] (fun i wr => ∃ k : Nat, k ≤ n ∧ i = .int .i64 k ∧ wr = w ∧ ∀ j (hj : j < m.held.length), j < k → m.held[j].1 ≠ q) (fun i _ => n - (intOf i).toNat)
  case atStart => exact ⟨0, by omega, rfl, by trivial, fun j _ h => by omega⟩
  case round =>
    obtain ⟨k, hk, rfl, rfl, hno⟩ := hrel
    have HNO := Lib.hid hno
    clear hno
    by_cases hlt : k < n
    · have g1 : decide ((k : Int) < (n : Int)) = true := by simp; omega
      have g2 : (k : Int) < (n : Int) := by omega
      have hkl : k < m.held.length := by rw [← HN.out]; exact hlt
      obtain ⟨g, cv, rfl, hcv, hc, h9⟩ := osl_row_at (R := rHeld) (E := 91) (k := 2) (a := aH) (c := cH) (cs := vH) (xs := m.held) (by omega) (by
        have := H.out
        simp only [mAt, sep_assoc] at this
        exact this.p3.p4.q1) k hkl
      obtain ⟨v, rfl, -⟩ := h9.pers_heap
      have e0 := hc 0 _ rfl
      simp only [Nat.add_zero] at e0
      obtain ⟨x, hx⟩ : ∃ x, x = m.held[k].1 := ⟨_, rfl⟩
      rw [← hx] at e0
      have HX := Lib.hid hx
      clear hc h9 hx hcv
      by_cases hq : x = q
      · have f1 : (x == q) = true := by simp [hq]
        go_wp2_with fail
        go_ret
        refine ⟨?_, rfl⟩
        rw [fIdx_of hkl (by rw [← HX.out]; exact hq) (fun j hj => HNO.out j (by omega) hj)]
        rfl
      · have f1 : (x == q) = false := by simp [hq]
        have HXQ := Lib.hid hq
        go_wp2_with fail
        go_roundw
        case rel =>
          refine ⟨k + 1, by omega, by go_num, by trivial, fun j hj hjk => ?_⟩
          by_cases e : j = k
          · subst e; rw [← HX.out]; exact HXQ.out
          · exact HNO.out j hj (by omega)
        case measure => simp [intOf]; omega
    · have g1 : decide ((k : Int) < (n : Int)) = false := by simp; omega
      go_wp2_with fail
      go_ret
      refine ⟨?_, rfl⟩
      rw [fIdx_of_none (fun x hx => by
        obtain ⟨j, hj, rfl⟩ := List.getElem_of_mem hx
        exact HNO.out j hj (by rw [← HN.out] at hj; omega))]
      rfl
/-! ### plain -/
theorem mlook_of {l : List (Int × List UInt8)} {q : Int} {i : Nat} (h : fIdx l q = some i) : ∃ hi : i < l.length, mlook l q = some l[i].2 := by
  obtain ⟨hi, h1, h2⟩ := fIdx_some h
  refine ⟨hi, ?_⟩
  have : l.find? (fun x => x.1 == q) = some l[i] := by
    rw [List.find?_eq_some_iff_getElem]
    exact ⟨by simpa using h1, i, hi, rfl, fun j hj => by simpa using h2 j hj⟩
  unfold mlook
  rw [this]
  rfl
theorem mlook_none {l : List (Int × List UInt8)} {q : Int} (h : fIdx l q = none) : mlook l q = none := by
  unfold mlook
  rw [List.find?_eq_none.2 fun x hx => by simpa using fIdx_none h x hx]
  rfl
theorem mlook_iff {l : List (Int × List UInt8)} {q : Int} : mlook l q = none ↔ fIdx l q = none := by
  constructor
  · intro h
    cases hf : fIdx l q with
    | none => rfl
    | some i => obtain ⟨_, h2⟩ := mlook_of hf; rw [h2] at h; cases h
  · exact mlook_none
theorem mlook_append {l : List (Int × List UInt8)} {q k : Int} {b : List UInt8} (h : mlook l k = none) : mlook (l ++ [(k, b)]) q = fset (mlook l) k (some b) q := by
  unfold mlook fset
  rw [List.find?_append]
  by_cases e : q = k
  · subst e
    have : l.find? (fun x => x.1 == q) = none := by
      unfold mlook at h
      simpa using h
    rw [this]
    simp
  · rw [if_neg e]
    cases hf : l.find? (fun x => x.1 == q) with
    | some x => simp [hf]
    | none =>
      have : (k == q) = false := by simp; omega
      simp [hf, this]
def Apart (l : List (Int × List UInt8)) : Prop := l.Pairwise fun x y => x.1 ≠ y.1
theorem mlook_erase {l : List (Int × List UInt8)} {k : Int} {i : Nat} (hp : Apart l) (h : fIdx l k = some i) (q : Int) : mlook (l.eraseIdx i) q = fset (mlook l) k none q := by
  induction l generalizing i with
  | nil => simp [fIdx] at h
  | cons x l ih =>
    obtain ⟨h1, h2⟩ := List.pairwise_cons.1 hp
    by_cases hx : x.1 = k
    · have : i = 0 := by
        obtain ⟨_, _, h3⟩ := fIdx_some h
        rcases Nat.eq_zero_or_pos i with e | e
        · exact e
        · exact absurd hx (h3 0 e)
      subst this
      simp only [List.eraseIdx_zero, List.tail_cons]
      unfold fset
      split
      · rename_i e
        subst e
        unfold mlook
        rw [List.find?_eq_none.2 fun y hy => by simp; intro e; exact h1 y hy (hx.trans e.symm)]
        rfl
      · rename_i e
        unfold mlook
        rw [List.find?_cons_of_neg (by simp; omega)]
    · obtain ⟨j, rfl⟩ : ∃ j, i = j + 1 := by
        obtain ⟨h0, h3, _⟩ := fIdx_some h
        cases i with
        | zero => exact absurd h3 hx
        | succ j => exact ⟨j, rfl⟩
      have hj : fIdx l k = some j := by
        unfold fIdx at h ⊢
        rw [List.findIdx?_cons] at h
        simp [hx] at h
        simpa using h
      have := ih h2 hj
      rw [List.eraseIdx_cons_succ]
      by_cases e : x.1 = q
      · have e1 : ∀ r : List (Int × List UInt8), mlook (x :: r) q = some x.2 := fun r => by
          unfold mlook
          have : (x :: r).find? (fun y => y.1 == q) = some x := by simp [e]
          rw [this]; rfl
        unfold fset
        rw [e1, e1, if_neg (by omega)]
      · have e1 : ∀ r : List (Int × List UInt8), mlook (x :: r) q = mlook r q := fun r => by
          unfold mlook
          have : (x :: r).find? (fun y => y.1 == q) = r.find? (fun y => y.1 == q) := by simp [e]
          rw [this]
        unfold fset at this ⊢
        rw [e1, e1, this]
end Go.Proofs.Ytnmkdidhilekiaa
