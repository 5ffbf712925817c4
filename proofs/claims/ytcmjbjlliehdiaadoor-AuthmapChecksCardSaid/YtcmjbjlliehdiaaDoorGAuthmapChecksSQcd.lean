/- The encoding of a proof: it is read back, and what is read is written as it was. Plain. -/
import Derived.Test.YtcmjbjlliehdiaaDoorGAuthmapChecksSQk
import Derived.Test.YtcmjbjlliehdiaaDoorGAuthmapChecksSDt
namespace Go.Proofs.YtcmjbjlliehdiaaDoor
open Go.RowKit PA
theorem qU_of (x : Nat) (r : List UInt8) (hx : x < 18446744073709551616) : stU (.ok (Lib.uvarint x ++ r)) = (x, .ok r) := by
  simp only [stU, uintP_of x r hx]
theorem qI_of (n : Int) (r : List UInt8) (h1 : -9223372036854775808 ≤ n) (h2 : n ≤ 9223372036854775807) : stI (.ok (PA.encI n ++ r)) = (n, .ok r) := by
  unfold stI
  rw [PA.encI, qU_of _ r (Lib.zigzag_lt h1 h2)]
  have : unz (Lib.zigzag n) = n := by unfold unz Lib.zigzag; split <;> split <;> omega
  rw [this]
theorem qR_of (b r : List UInt8) (hb : b.length < 18446744073709551616) : stR (.ok (encR b ++ r)) = (b, .ok r) := by
  unfold stR; dsimp only
  rw [rawP_of b r hb]
theorem stS_shift (st : RSt) : ∀ k, stS (stU st).2 k = stS st (k + 1)
  | 0 => rfl
  | k + 1 => by show (stU (stS (stU st).2 k)).2 = _; rw [stS_shift st k]; rfl
theorem nmS_cons (st : RSt) (k : Nat) : nmS st (k + 1) = (stU st).1 :: nmS (stU st).2 k := by
  unfold nmS
  rw [List.range_succ_eq_map, List.map_cons, List.map_map]
  congr 1
  apply List.map_congr_left
  intro i _
  show (stU (stS st (i + 1))).1 = _
  rw [← stS_shift]
theorem nms_of : ∀ (hs : List Nat) (r : List UInt8), (∀ h ∈ hs, h < 18446744073709551616) → nmS (.ok (uvsE hs ++ r)) hs.length = hs ∧ stS (.ok (uvsE hs ++ r)) hs.length = .ok r
  | [], r, _ => ⟨rfl, rfl⟩
  | h :: hs, r, hb => by
    have e : uvsE (h :: hs) ++ r = Lib.uvarint h ++ (uvsE hs ++ r) := by unfold uvsE; rw [List.flatMap_cons, List.append_assoc]
    have hu := qU_of h (uvsE hs ++ r) (hb h (by simp))
    have ih := nms_of hs r fun x hx => hb x (by simp [hx])
    rw [e, List.length_cons, nmS_cons, ← stS_shift, hu]
    exact ⟨by rw [ih.1], ih.2⟩
theorem decL_of (lb : Nat) (hs : List Nat) (r : List UInt8) (hl : hs.length ≤ lb) (hm : hs.length ≤ 1000000) (hb : ∀ h ∈ hs, h < 18446744073709551616) : decL lb (.ok (hvsE hs ++ r)) = some (hs, .ok r) := by
  have hi := qI_of (hs.length : Int) (uvsE hs ++ r) (by omega) (by omega)
  have e : hvsE hs ++ r = PA.encI (hs.length : Int) ++ (uvsE hs ++ r) := by unfold hvsE; rw [List.append_assoc]
  have hn := nms_of hs r hb
  rw [e]
  have := decL_some (lb := lb) (m := hs.length) (st := .ok (PA.encI (hs.length : Int) ++ (uvsE hs ++ r))) (by rw [hi]) hl
  rw [this, hi]
  dsimp only
  rw [hn.1, hn.2]
theorem uvsE_ge : ∀ hs : List Nat, hs.length ≤ (uvsE hs).length
  | [] => Nat.zero_le _
  | h :: hs => by
    have ih := uvsE_ge hs
    have h1 : 0 < (Lib.uvarint h).length := by rw [Lib.uvarint]; split <;> simp
    have e : uvsE (h :: hs) = Lib.uvarint h ++ uvsE hs := by unfold uvsE; rw [List.flatMap_cons]
    rw [e, List.length_append, List.length_cons]
    omega
/-- Decode leads back. -/
theorem decA_of (p : Prf) (hp : PrfOK p) : decA (encP p) = some p := by
  have e : encP p = encR p.s ++ (hvsE p.l ++ (hvsE p.r ++ [])) := by unfold encP; simp only [List.append_assoc, List.append_nil]
  have h0 := qR_of p.s (hvsE p.l ++ (hvsE p.r ++ [])) (by have := hp.s; omega)
  have hll : p.l.length ≤ (encP p).length := by
    have := uvsE_ge p.l
    unfold encP hvsE; simp only [List.length_append]; omega
  have hlr : p.r.length ≤ (encP p).length := by
    have := uvsE_ge p.r
    unfold encP hvsE; simp only [List.length_append]; omega
  have h1 := decL_of (encP p).length p.l (hvsE p.r ++ []) hll hp.l hp.bl
  have h2 := decL_of (encP p).length p.r [] hlr hp.r hp.br
  rw [← e] at h0
  rw [decA_end (b := encP p) (by rw [h0]; exact h1) h2, h0]
  rfl
/-- Every error of a reader is another number than 0. -/
def RErr (st : RSt) : Prop := ∀ e, st = .error e → e ≠ 0
theorem uintGo_errQ : ∀ (l : List UInt8) (i n : Nat) (e : Int), uintGo i n l = .error e → e ≠ 0
  | [], i, n, e, h => by simp [uintGo] at h; omega
  | c :: l, i, n, e, h => by
    unfold uintGo at h
    split at h
    · simp at h; omega
    · split at h
      · cases h
      · exact uintGo_errQ l _ _ e h
theorem stU_err {st : RSt} (h : RErr st) : RErr (stU st).2 := by
  cases st with
  | error e => exact h
  | ok l =>
    unfold stU
    dsimp only
    cases hu : uintP l with
    | error e => exact fun e' he => by cases he; exact uintGo_errQ l 0 0 e hu
    | ok x => exact fun e' he => by cases he
theorem stR_err {st : RSt} (h : RErr st) : RErr (stR st).2 := by
  cases st with
  | error e => exact h
  | ok l =>
    unfold stR rawP
    dsimp only
    cases hu : uintP l with
    | error e => exact fun e' he => by cases he; exact uintGo_errQ l 0 0 e hu
    | ok x =>
      obtain ⟨n, l'⟩ := x
      dsimp only
      split
      · rename_i e he
        split at he
        · cases he; exact fun e' he' => by cases he'; decide
        · cases he
      · exact fun e' he => by cases he
theorem stS_err {st : RSt} (h : RErr st) : ∀ k, RErr (stS st k)
  | 0 => h
  | k + 1 => stU_err (stS_err h k)
theorem stU_back {st : RSt} {n : Nat} {l' : List UInt8} (h : stU st = (n, .ok l')) : st = .ok (Lib.uvarint n ++ l') := by
  cases st with
  | error e => simp [stU] at h
  | ok l =>
    unfold stU at h
    dsimp only at h
    cases hu : uintP l with
    | error e => rw [hu] at h; simp at h
    | ok x =>
      obtain ⟨m, r⟩ := x
      rw [hu] at h
      simp at h
      obtain ⟨rfl, rfl⟩ := h
      rw [← uintP_enc l r m hu]
theorem stS_back {st : RSt} : ∀ (k : Nat) (l' : List UInt8), stS st k = .ok l' → st = .ok (uvsE (nmS st k) ++ l')
  | 0, l', h => by rw [show st = .ok l' from h]; rfl
  | k + 1, l', h => by
    have h1 : stU (stS st k) = ((stU (stS st k)).1, .ok l') := Prod.ext rfl h
    have h2 := stS_back k _ (stU_back h1)
    rw [nmS_succ, uvsE_snoc, List.append_assoc]
    exact h2
theorem zig_unz (z : Nat) : Lib.zigzag (unz z) = z := by unfold unz Lib.zigzag; split <;> split <;> omega
theorem decL_back {lb : Nat} {st s2 : RSt} {l : List Nat} {r : List UInt8} (h : decL lb st = some (l, s2)) (hr : s2 = .ok r) : st = .ok (hvsE l ++ r) ∧ l.length ≤ lb ∧ ∀ h ∈ l, h < 18446744073709551616 := by
  by_cases hb : (stI st).1 < 0 ∨ (lb : Int) < (stI st).1
  · rw [decL_none hb] at h; cases h
  · obtain ⟨m, hm⟩ : ∃ m : Nat, (m : Int) = (stI st).1 := ⟨(stI st).1.toNat, by omega⟩
    rw [decL_some hm (by omega)] at h
    simp only [Option.some.injEq, Prod.mk.injEq] at h
    obtain ⟨h1, h2⟩ := h
    have h3 := stS_back m r (h2.trans hr)
    rw [h1] at h3
    have hlen : l.length = m := by rw [← h1, nmS_len]
    have h4 : stU st = ((stU st).1, .ok (uvsE l ++ r)) := Prod.ext rfl h3
    have h5 := stU_back h4
    have h6 : Lib.zigzag (m : Int) = (stU st).1 := by rw [hm]; exact zig_unz _
    refine ⟨?_, by omega, ?_⟩
    · rw [hvsE, PA.encI, hlen, h6, List.append_assoc]; exact h5
    · intro x hx
      rw [← h1] at hx
      simp only [nmS, List.mem_map] at hx
      obtain ⟨i, -, rfl⟩ := hx
      exact stU_lt _
theorem stR_back {st : RSt} {b l' : List UInt8} (h : stR st = (b, .ok l')) : st = .ok (encR b ++ l') := by
  cases st with
  | error e => simp [stR] at h
  | ok l =>
    unfold stR rawP at h
    dsimp only at h
    cases hu : uintP l with
    | error e => rw [hu] at h; simp at h
    | ok x =>
      obtain ⟨n, r⟩ := x
      rw [hu] at h
      dsimp only at h
      by_cases hn : r.length < n
      · rw [if_pos hn] at h; simp at h
      · rw [if_neg hn] at h
        simp at h
        obtain ⟨rfl, rfl⟩ := h
        rw [uintP_enc l r n hu, encR, List.length_take, Nat.min_eq_left (by omega), List.append_assoc, List.take_append_drop]
/-- What is read is written as it was. -/
theorem decA_back {b : List UInt8} {p : Prf} (h : decA b = some p) (hb : b.length ≤ 1000000) : encP p = b ∧ PrfOK p := by
  cases h1 : decL b.length (stR (.ok b)).2 with
  | none => rw [decA_none1 h1] at h; cases h
  | some x =>
    obtain ⟨l, s2⟩ := x
    cases h2 : decL b.length s2 with
    | none => rw [decA_none2 h1 h2] at h; cases h
    | some y =>
      obtain ⟨r, s3⟩ := y
      rw [decA_end h1 h2] at h
      by_cases he : stE s3 = 0
      · rw [if_neg (by simpa using he)] at h
        cases h
        have hE0 : RErr (.ok b) := fun e he => by cases he
        have hErr : ∀ {lb st l s}, RErr st → decL lb st = some (l, s) → RErr s := by
          intro lb st l s hst hd
          unfold decL at hd
          split at hd
          · cases hd
          · cases hd; exact stS_err (stU_err hst) _
        have hE3 : RErr s3 := hErr (hErr (stR_err hE0) h1) h2
        have hs3 : s3 = .ok [] := by
          cases s3 with
          | error e => exact absurd he (hE3 e rfl)
          | ok t => cases t with
            | nil => rfl
            | cons a t => simp [stE] at he
        obtain ⟨e2, n2, b2⟩ := decL_back h2 hs3
        obtain ⟨e1, n1, b1⟩ := decL_back h1 e2
        have e0 := stR_back (st := .ok b) (b := (stR (.ok b)).1) (l' := hvsE l ++ (hvsE r ++ [])) (Prod.ext rfl e1)
        have e0' : b = encR (stR (.ok b)).1 ++ (hvsE l ++ (hvsE r ++ [])) := by
          have := e0
          simp only [Except.ok.injEq] at this
          exact this
        refine ⟨?_, ?_⟩
        · unfold encP
          dsimp only
          rw [List.append_nil] at e0'
          rw [List.append_assoc]
          exact e0'.symm
        · refine ⟨by dsimp only; omega, by dsimp only; omega, ?_, b1, b2⟩
          have h9 := congrArg List.length e0'
          simp only [List.length_append, encR] at h9
          dsimp only
          omega
      · rw [if_pos he] at h; cases h
end Go.Proofs.YtcmjbjlliehdiaaDoor
