/- JournalDetects in plain: a frame with one byte changed behind the length is no frame. No program in sight. -/
import Derived.Test.YtdaknmcmjnbfeaaJp
namespace PA
open Go
theorem uv_prefix {a b : Nat} {r s : List UInt8} (ha : a < 18446744073709551616) (hb : b < 18446744073709551616) (h : Lib.uvarint a ++ r = Lib.uvarint b ++ s) : a = b ∧ r = s := by
  have h1 := uintP_of a r ha
  have h2 := uintP_of b s hb
  rw [h, h2] at h1
  simp only [Except.ok.injEq, Prod.mk.injEq] at h1
  exact ⟨h1.1.symm, h1.2.symm⟩
theorem set_ne {l : List UInt8} {q : Nat} {c : UInt8} (hq : q < l.length) (hc : c ≠ l[q]) : l.set q c ≠ l := by
  intro h
  have h1 : (l.set q c)[q]? = some c := by rw [List.getElem?_set_self hq]
  rw [h, List.getElem?_eq_getElem hq] at h1
  exact hc (Option.some.inj h1).symm
theorem hash_len (b : List UInt8) : bytesN frameL b < 18446744073709551616 := sumU_lt _ _
theorem frame_flip (own : List UInt8) (hol : own.length ≤ 1000000) (p : Nat) (c : UInt8) (hp1 : (Lib.uvarint (coreJ 0 own).length).length ≤ p) (hp2 : p < (frameJ 0 own).length) (hc : c ≠ (frameJ 0 own)[p]) :
    scanJ 0 ((frameJ 0 own).set p c) = ([], 0) := by
  have hfl := frameJ_le 0 own (by omega) (by omega) (by omega)
  have hcl := (frameJ_length 0 own).2
  refine scanJ_no ?_
  rintro ⟨-, e⟩
  obtain ⟨f2, hf2⟩ : ∃ f2, f2 = (frameJ 0 own).set p c := ⟨_, rfl⟩
  have hl2 : f2.length = (frameJ 0 own).length := by rw [hf2, List.length_set]
  rw [← hf2] at e
  obtain ⟨x, hx⟩ : ∃ x, x = recJ f2 := ⟨_, rfl⟩
  rw [← hx] at e
  have hcx := (frameJ_length (0 : Nat) x).2
  have hle : (frameJ (0 : Nat) x).length ≤ f2.length := by rw [← e, List.length_take]; omega
  have hsp : f2 = frameJ (0 : Nat) x ++ f2.drop (frameJ (0 : Nat) x).length := by
    conv => lhs; rw [← List.take_append_drop (frameJ (0 : Nat) x).length f2, e]
  obtain ⟨t, ht⟩ : ∃ t, t = f2.drop (frameJ (0 : Nat) x).length := ⟨_, rfl⟩
  rw [← ht] at hsp
  obtain ⟨C, hC⟩ : ∃ C, C = coreJ 0 own := ⟨_, rfl⟩
  obtain ⟨C2, hC2⟩ : ∃ C2, C2 = coreJ (0 : Nat) x := ⟨_, rfl⟩
  obtain ⟨f, hf⟩ : ∃ f, f = frameJ 0 own := ⟨_, rfl⟩
  have hfd : f = Lib.uvarint C.length ++ (C ++ Lib.uvarint (bytesN frameL C)) := by rw [hf, frameJ, encR, ← hC, List.append_assoc]
  have hgd : frameJ (0 : Nat) x = Lib.uvarint C2.length ++ (C2 ++ Lib.uvarint (bytesN frameL C2)) := by rw [frameJ, encR, ← hC2, List.append_assoc]
  rw [← hf] at hf2 hl2 hfl hcl
  rw [← hC] at hp1 hcl
  rw [← hC2] at hcx
  have hp2' : p < f.length := by rw [hf]; exact hp2
  have hc' : c ≠ f[p] := by
    have : f[p] = (frameJ 0 own)[p] := by congr 1
    rw [this]; exact hc
  clear hp2 hc hf hC hC2 hx e ht
  have h1 := hash_len C
  have h2 := hash_len C2
  have hbset := fun (q : Nat) (hq : q < C.length) (hne : c ≠ C[q]) => bytesN_set frameL C q c hq (by omega) hne
  obtain ⟨m, hm⟩ : ∃ m, m = bytesN frameL C := ⟨_, rfl⟩
  obtain ⟨m2, hm2⟩ : ∃ m2, m2 = bytesN frameL C2 := ⟨_, rfl⟩
  rw [← hm] at hfd h1 hbset
  rw [← hm2] at hgd h2
  obtain ⟨q, hq⟩ : ∃ q, p = (Lib.uvarint C.length).length + q := ⟨p - (Lib.uvarint C.length).length, by omega⟩
  subst hfd
  subst hq
  rw [List.set_append_right _ _ (by omega), Nat.add_sub_cancel_left] at hf2
  rw [hf2, hgd, List.append_assoc] at hsp
  obtain ⟨e1, e2⟩ := uv_prefix (by omega) (by omega) hsp
  rw [List.append_assoc] at e2
  have hlen : (Lib.uvarint C.length ++ (C ++ Lib.uvarint m)).length = (Lib.uvarint C.length).length + (C.length + (Lib.uvarint m).length) := by simp only [List.length_append]
  have hget : (Lib.uvarint C.length ++ (C ++ Lib.uvarint m))[(Lib.uvarint C.length).length + q]? = (C ++ Lib.uvarint m)[q]? := by
    rw [List.getElem?_append_right (by omega), Nat.add_sub_cancel_left]
  rw [List.getElem?_eq_getElem hp2'] at hget
  by_cases hqc : q < C.length
  · rw [List.set_append_left _ _ hqc] at e2
    obtain ⟨e3, e4⟩ := List.append_inj e2 (by rw [List.length_set]; exact e1)
    rw [List.getElem?_append_left hqc, List.getElem?_eq_getElem hqc] at hget
    rw [Option.some.inj hget] at hc'
    have e5 := hbset q hqc hc'
    rw [e3, ← hm2] at e5
    have e6 : Lib.uvarint m ++ [] = Lib.uvarint m2 ++ t := by rw [List.append_nil]; exact e4
    exact e5 (uv_prefix h1 h2 e6).1.symm
  · have hq2 : q - C.length < (Lib.uvarint m).length := by omega
    rw [List.set_append_right _ _ (by omega)] at e2
    obtain ⟨e3, e4⟩ := List.append_inj e2 e1
    rw [← e3, ← hm] at hm2
    rw [hm2] at e4
    rw [List.getElem?_append_right (by omega), List.getElem?_eq_getElem hq2] at hget
    rw [Option.some.inj hget] at hc'
    have hlt := congrArg List.length e4
    rw [List.length_set, List.length_append] at hlt
    have ht0 : t = [] := List.eq_nil_of_length_eq_zero (by omega)
    rw [ht0, List.append_nil] at e4
    exact set_ne hq2 hc' e4
end PA
