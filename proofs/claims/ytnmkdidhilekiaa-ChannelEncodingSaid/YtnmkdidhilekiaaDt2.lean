/- ChannelDetects, the plain law. -/
import Derived.Test.YtnmkdidhilekiaaDt
import Derived.Test.YtnmkdidhilekiaaE3
namespace Go.Proofs.Ytnmkdidhilekiaa
open Go.RowKit PA
theorem uintGo_err : ∀ (l : List UInt8) (i n : Nat) (e : Int), uintGo i n l = .error e → e ≠ 0
  | [], i, n, e, h => by simp [uintGo] at h; omega
  | c :: l, i, n, e, h => by
    unfold uintGo at h
    split at h
    · simp at h; omega
    · split at h
      · cases h
      · exact uintGo_err l _ _ e h
theorem stR_of (b r : List UInt8) (hb : b.length < 18446744073709551616) : stR (.ok (encR b ++ r)) = (b, .ok r) := by
  unfold stR; dsimp only
  rw [rawP_of b r hb]
theorem wholeP_set (c : List UInt8) (j : Nat) (y : UInt8) :
    (wholeP c).set ((Lib.uvarint c.length).length + j) y = Lib.uvarint c.length ++ (c ++ Lib.uvarint (bytesN parcel c)).set j y := by
  rw [wholeP, encR, List.append_assoc, List.set_append_right _ _ (by omega)]
  congr 2; omega
theorem decHead_ne (l c : List UInt8) (s1 : RSt) (h1 : stR (.ok l) = (c, s1)) (hne : stE (stU s1).2 ≠ 0 ∨ (stU s1).1 ≠ bytesN parcel c) : decHead l ≠ 0 := by
  unfold decHead
  rw [h1]
  dsimp only
  generalize bytesN parcel c = hh at *
  generalize stU s1 = u at *
  by_cases h2 : stE u.2 = 0
  · rw [if_neg (by simpa using h2)]
    rcases hne with h | h
    · exact absurd h2 h
    · rw [if_pos h]; decide
  · rw [if_pos h2]; decide
theorem stU_of (q : Nat) (hq : q < 18446744073709551616) : stU (.ok (Lib.uvarint q)) = (q, .ok []) := by
  have := uintP_of q [] hq
  rw [List.append_nil] at this
  unfold stU; dsimp only; rw [this]
/-- Whatever the number behind the core is changed into, it is none or another one. -/
theorem stU_changed (V' : List UInt8) (q : Nat) (hV : V' ≠ Lib.uvarint q) : stE (stU (.ok V')).2 ≠ 0 ∨ (stU (.ok V')).1 ≠ q := by
  cases hu : uintP V' with
  | error e =>
    have he := uintGo_err V' 0 0 e hu
    have e3 : stU (.ok V') = (0, .error e) := by unfold stU; dsimp only; rw [hu]
    rw [e3]; exact .inl he
  | ok x =>
    obtain ⟨n, r⟩ := x
    have e3 : stU (.ok V') = (n, .ok r) := by unfold stU; dsimp only; rw [hu]
    rw [e3]
    cases r with
    | cons b r => exact .inl (by show (2 : Int) ≠ 0; decide)
    | nil =>
      refine .inr fun e => ?_
      have := uintP_enc V' [] n hu
      rw [List.append_nil, show n = q from e] at this
      exact hV this
theorem detect1 (c : List UInt8) (hc : c.length < 18446744073709551616) (j : Nat) (y : UInt8) (hj : j < c.length) (hy : y ≠ c[j]) (h : Nat) (hh : h = bytesN parcel c) :
    decHead (encR (c.set j y) ++ Lib.uvarint h) ≠ 0 := by
  have hl : (c.set j y).length = c.length := by simp
  have hne := bytesN_set parcel c j y hj hc hy
  have hbl : h < 18446744073709551616 := by rw [hh]; exact bytesN_lt _ _
  rw [← hh] at hne
  refine decHead_ne _ (c.set j y) _ (stR_of _ _ (by rw [hl]; exact hc)) (.inr ?_)
  rw [stU_of h hbl]
  exact fun e => hne e.symm
theorem detect2 (c : List UInt8) (hc : c.length < 18446744073709551616) (V' : List UInt8) (h : Nat) (hh : h = bytesN parcel c) (hV : V' ≠ Lib.uvarint h) : decHead (encR c ++ V') ≠ 0 := by
  refine decHead_ne _ c _ (stR_of _ _ hc) ?_
  rw [← hh]
  exact stU_changed V' h hV
theorem detect (c : List UInt8) (hc : c.length < 18446744073709551616) (j : Nat) (y : UInt8) (h : Nat) (hh : h = bytesN parcel c) (hj : j < (c ++ Lib.uvarint h).length) (hy : y ≠ (c ++ Lib.uvarint h)[j]) :
    decHead (Lib.uvarint c.length ++ (c ++ Lib.uvarint h).set j y) ≠ 0 := by
  by_cases hjc : j < c.length
  · have e1 : (c ++ Lib.uvarint h).set j y = c.set j y ++ Lib.uvarint h := List.set_append_left _ _ hjc
    rw [List.getElem_append_left hjc] at hy
    have hl : (c.set j y).length = c.length := by simp
    have e2 : Lib.uvarint c.length ++ (c ++ Lib.uvarint h).set j y = encR (c.set j y) ++ Lib.uvarint h := by
      rw [e1, encR, hl, List.append_assoc]
    rw [e2]
    exact detect1 c hc j y hjc hy h hh
  · obtain ⟨i, rfl⟩ : ∃ i, j = c.length + i := ⟨j - c.length, by omega⟩
    have hi : i < (Lib.uvarint h).length := by rw [List.length_append] at hj; omega
    have e1 : (c ++ Lib.uvarint h).set (c.length + i) y = c ++ (Lib.uvarint h).set i y := by
      rw [List.set_append_right _ _ (by omega)]; congr 2; omega
    have e2 : Lib.uvarint c.length ++ (c ++ Lib.uvarint h).set (c.length + i) y = encR c ++ (Lib.uvarint h).set i y := by
      rw [e1, encR, List.append_assoc]
    have hy2 : y ≠ (Lib.uvarint h)[i] := by
      intro e; apply hy; rw [e, List.getElem_append_right (by omega)]; congr 1; omega
    have hV : (Lib.uvarint h).set i y ≠ Lib.uvarint h := by
      intro e
      have h1 : ((Lib.uvarint h).set i y)[i]? = (Lib.uvarint h)[i]? := by rw [e]
      rw [List.getElem?_set_self hi, List.getElem?_eq_getElem hi] at h1
      exact hy2 (by simpa using h1)
    rw [e2]
    exact detect2 c hc _ h hh hV
theorem decHead_val (l : List UInt8) (h : decHead l ≠ 0) : (decP l).2 = 2 ∨ (decP l).2 = 11 := by
  rw [decP, if_pos h]
  show decHead l = 2 ∨ decHead l = 11
  unfold decHead at h ⊢
  split
  · exact .inl rfl
  · split
    · exact .inr rfl
    · rename_i h1 h2; rw [if_neg h1, if_neg h2] at h; exact absurd rfl h
end Go.Proofs.Ytnmkdidhilekiaa
