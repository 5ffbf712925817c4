/- The journal in plain: frames, and what is read of them. No program in sight. -/
import Derived.Test.YtdaknmcmjnbfeaaGJournalApartSDt
import Derived.Test.YtdaknmcmjnbfeaaGJournalApartSW9
import Derived.Deep.DeepCutAuto
namespace PA
open Go
def frameL : List UInt8 := [102, 114, 97, 109, 101]
def coreJ (n : Int) (b : List UInt8) : List UInt8 := encI n ++ encR b
def frameJ (n : Int) (b : List UInt8) : List UInt8 := encR (coreJ n b) ++ Lib.uvarint (bytesN frameL (coreJ n b))
/-- The number that stands at the beginning, as the program reads it. -/
def headJ (l : List UInt8) : Nat := (stU (.ok (l.take 10))).1
def cutJ (l : List UInt8) : List UInt8 := l.take (10 + min (headJ l) l.length)
/-- The record whose frame may be at the beginning. -/
def recJ (l : List UInt8) : List UInt8 := (stR (stI (.ok (stR (.ok (cutJ l))).1)).2).1
theorem raw_st (b r : List UInt8) (hb : b.length < 18446744073709551616) : stR (.ok (encR b ++ r)) = (b, .ok r) := by
  unfold stR; dsimp only
  rw [rawP_of b r hb]
theorem uint_st (q : Nat) (r : List UInt8) (hq : q < 18446744073709551616) : stU (.ok (Lib.uvarint q ++ r)) = (q, .ok r) := by
  unfold stU; dsimp only
  rw [uintP_of q r hq]
theorem int_st (n : Int) (r : List UInt8) (h1 : -9223372036854775808 ≤ n) (h2 : n ≤ 9223372036854775807) : (stI (.ok (encI n ++ r))).2 = .ok r := by
  unfold stI encI
  rw [uint_st _ _ (Lib.zigzag_lt h1 h2)]
theorem frameJ_length (n : Int) (b : List UInt8) : b.length + 1 ≤ (frameJ n b).length ∧ (coreJ n b).length ≤ (frameJ n b).length := by
  have := Lib.uvarint_pos (coreJ n b).length
  have hc : b.length ≤ (coreJ n b).length := by rw [coreJ, encR]; simp only [List.length_append]; omega
  rw [frameJ, encR]
  simp only [List.length_append]
  omega
theorem frameJ_le (n : Int) (b : List UInt8) (h1 : -9223372036854775808 ≤ n) (h2 : n ≤ 9223372036854775807) (hb : b.length < 1000000000) : (frameJ n b).length ≤ b.length + 40 := by
  have e1 := encI_length n h1 h2
  have e2 := Lib.uvarint_length64 (x := b.length) (by omega)
  have hc : (coreJ n b).length = (encI n).length + (Lib.uvarint b.length).length + b.length := by rw [coreJ, encR]; simp only [List.length_append]; omega
  have e3 := Lib.uvarint_length64 (x := (coreJ n b).length) (by omega)
  have e4 := Lib.uvarint_length64 (x := bytesN frameL (coreJ n b)) (sumU_lt _ _)
  rw [frameJ, encR]
  simp only [List.length_append]
  omega
/-- What the reference reads. -/
theorem ref_of (n : Int) (x t : List UInt8) (h1 : -9223372036854775808 ≤ n) (h2 : n ≤ 9223372036854775807) (hl : (frameJ n x).length < 18446744073709551616) :
    stR (.ok (frameJ n x ++ t)) = (coreJ n x, .ok (Lib.uvarint (bytesN frameL (coreJ n x)) ++ t)) ∧ (stI (.ok (coreJ n x))).2 = .ok (encR x) ∧ stR (.ok (encR x)) = (x, .ok []) := by
  have hf := frameJ_length n x
  refine ⟨?_, ?_, ?_⟩
  · rw [frameJ, List.append_assoc]; exact raw_st _ _ (by omega)
  · exact int_st n _ h1 h2
  · have := raw_st x [] (by omega)
    rwa [List.append_nil] at this
theorem rec_of (n : Int) (x t : List UInt8) (h1 : -9223372036854775808 ≤ n) (h2 : n ≤ 9223372036854775807) (hl : (frameJ n x).length < 18446744073709551616) : recJ (frameJ n x ++ t) = x := by
  obtain ⟨-, e2, e3⟩ := ref_of n x t h1 h2 hl
  have hf := frameJ_length n x
  obtain ⟨c, hc⟩ : ∃ c, c = coreJ n x := ⟨_, rfl⟩
  obtain ⟨R, hR⟩ : ∃ R, frameJ n x ++ t = Lib.uvarint c.length ++ (c ++ R) := ⟨Lib.uvarint (bytesN frameL c) ++ t, by rw [frameJ, encR, ← hc]; simp only [List.append_assoc]⟩
  rw [← hc] at e2 hf
  have hu := Lib.uvarint_length64 (x := c.length) (by omega)
  have t1 : ∀ k, 10 ≤ k → (Lib.uvarint c.length ++ (c ++ R)).take k = Lib.uvarint c.length ++ (c ++ R).take (k - (Lib.uvarint c.length).length) := fun k hk => by
    rw [List.take_append, List.take_of_length_le (by omega)]
  have hh : headJ (frameJ n x ++ t) = c.length := by
    rw [headJ, hR, t1 10 (by omega), uint_st _ _ (by omega)]
  have hcut : stR (.ok (cutJ (frameJ n x ++ t))) = (c, .ok (R.take (10 + c.length - (Lib.uvarint c.length).length - c.length))) := by
    have hm : min c.length (frameJ n x ++ t).length = c.length := Nat.min_eq_left (by rw [List.length_append]; omega)
    rw [cutJ, hh, hm, hR, t1 _ (by omega), List.take_append, List.take_of_length_le (l := c) (by omega), ← List.append_assoc]
    exact raw_st c _ (by omega)
  rw [recJ, hcut]
  dsimp only
  rw [e2, e3]
/-- The records of some bytes, from number i on, and their length. -/
def scanJ (i : Nat) (l : List UInt8) : List (List UInt8) × Nat :=
  if _h : l ≠ [] ∧ l.take (frameJ i (recJ l)).length = frameJ i (recJ l) then
    (recJ l :: (scanJ (i + 1) (l.drop (frameJ i (recJ l)).length)).1, (frameJ i (recJ l)).length + (scanJ (i + 1) (l.drop (frameJ i (recJ l)).length)).2)
  else ([], 0)
termination_by l.length
decreasing_by all_goals
  have h1 := (frameJ_length i (recJ l)).1
  have h2 : 0 < l.length := List.length_pos_iff.2 _h.1
  rw [List.length_drop]; omega
theorem scanJ_no {i : Nat} {l : List UInt8} (h : ¬ (l ≠ [] ∧ l.take (frameJ i (recJ l)).length = frameJ i (recJ l))) : scanJ i l = ([], 0) := by
  rw [scanJ, dif_neg h]
theorem scanJ_yes {i : Nat} {x t : List UInt8} (hi : i ≤ 9223372036854775807) (hl : (frameJ i x).length < 18446744073709551616) : scanJ i (frameJ i x ++ t) = (x :: (scanJ (i + 1) t).1, (frameJ i x).length + (scanJ (i + 1) t).2) := by
  have hr := rec_of i x t (by omega) (by omega) hl
  have hp := (frameJ_length i x).1
  have hne : frameJ i x ++ t ≠ [] := by intro e; have := congrArg List.length e; simp at this; rw [this.1] at hp; simp at hp
  rw [scanJ, dif_pos ⟨hne, by rw [hr]; simp⟩, hr]
  simp
/-- What either side reads is the one record whose frame is there. -/
theorem rec_uniq {n : Int} {x l : List UInt8} (h1 : -9223372036854775808 ≤ n) (h2 : n ≤ 9223372036854775807) (hl : l.length < 18446744073709551616) (h : l.take (frameJ n x).length = frameJ n x) : recJ l = x := by
  have e : l = frameJ n x ++ l.drop (frameJ n x).length := by
    conv => lhs; rw [← List.take_append_drop (frameJ n x).length l, h]
  have hle : (frameJ n x).length ≤ l.length := by rw [← h, List.length_take]; omega
  rw [e]
  exact rec_of n x _ h1 h2 (by omega)
/-- What the reference finds. -/
def okS : RSt → Bool | .ok _ => true | .error _ => false
def refX (l : List UInt8) : List UInt8 × RSt := stR (stI (.ok (stR (.ok l)).1)).2
theorem ref_uniq {n : Int} {x l : List UInt8} (h1 : -9223372036854775808 ≤ n) (h2 : n ≤ 9223372036854775807) (hl : l.length < 18446744073709551616) (h : l.take (frameJ n x).length = frameJ n x) : refX l = (x, .ok []) ∧ okS (stR (.ok l)).2 = true := by
  have e : l = frameJ n x ++ l.drop (frameJ n x).length := by
    conv => lhs; rw [← List.take_append_drop (frameJ n x).length l, h]
  have hle : (frameJ n x).length ≤ l.length := by rw [← h, List.length_take]; omega
  obtain ⟨e1, e2, e3⟩ := ref_of n x (l.drop (frameJ n x).length) h1 h2 (by omega)
  rw [e, refX, e1]
  exact ⟨by dsimp only; rw [e2, e3], rfl⟩
/-- Both sides go on, or neither. -/
theorem both {n : Int} {l : List UInt8} (h1 : -9223372036854775808 ≤ n) (h2 : n ≤ 9223372036854775807) (hl : l.length < 18446744073709551616) :
    (okS (stR (.ok l)).2 = true ∧ okS (refX l).2 = true ∧ l.take (frameJ n (refX l).1).length = frameJ n (refX l).1) ↔ l.take (frameJ n (recJ l)).length = frameJ n (recJ l) := by
  constructor
  · rintro ⟨-, -, h⟩
    rw [rec_uniq h1 h2 hl h]; exact h
  · intro h
    obtain ⟨e1, e2⟩ := ref_uniq h1 h2 hl h
    rw [e1]
    exact ⟨e2, rfl, h⟩
/-- Frames, one behind the other. -/
def framesG (f : Nat → List UInt8 → List UInt8) : Nat → List (List UInt8) → List UInt8
  | _, [] => []
  | i, x :: xs => f i x ++ framesG f (i + 1) xs
theorem framesG_snoc (f : Nat → List UInt8 → List UInt8) : ∀ (xs : List (List UInt8)) (i : Nat) (x : List UInt8), framesG f i (xs ++ [x]) = framesG f i xs ++ f (i + xs.length) x
  | [], i, x => by simp [framesG]
  | y :: xs, i, x => by
    have e : i + (y :: xs).length = i + 1 + xs.length := by rw [List.length_cons]; omega
    rw [e, List.cons_append, framesG, framesG, framesG_snoc f xs (i + 1) x, List.append_assoc]
def fJ (i : Nat) (x : List UInt8) : List UInt8 := frameJ i x
def framesJ (i : Nat) (xs : List (List UInt8)) : List UInt8 := framesG fJ i xs
theorem framesJ_nil (i : Nat) : framesJ i [] = [] := rfl
theorem framesJ_cons (i : Nat) (x : List UInt8) (xs : List (List UInt8)) : framesJ i (x :: xs) = frameJ i x ++ framesJ (i + 1) xs := by
  rw [framesJ, framesG, fJ, framesJ]
theorem framesJ_snoc (i : Nat) (xs : List (List UInt8)) (x : List UInt8) : framesJ i (xs ++ [x]) = framesJ i xs ++ fJ (i + xs.length) x := framesG_snoc fJ xs i x
theorem scanJ_frames : ∀ (xs : List (List UInt8)) (i : Nat) (t : List UInt8), i + xs.length ≤ 9223372036854775807 → (framesJ i xs).length < 18446744073709551616 →
    scanJ i (framesJ i xs ++ t) = (xs ++ (scanJ (i + xs.length) t).1, (framesJ i xs).length + (scanJ (i + xs.length) t).2)
  | [], i, t, _, _ => by rw [framesJ_nil]; simp
  | x :: xs, i, t, hi, hl => by
    rw [framesJ_cons, List.length_append] at hl
    rw [List.length_cons] at hi
    have e : i + (x :: xs).length = i + 1 + xs.length := by rw [List.length_cons]; omega
    rw [e, framesJ_cons, List.append_assoc, scanJ_yes (by omega) (by omega), scanJ_frames xs (i + 1) t (by omega) (by omega), List.length_append, List.cons_append]
    dsimp only
    rw [Nat.add_assoc (frameJ i x).length]
end PA
/- Package journal: Frame. -/
namespace Go.Proofs.Ytdaknmcmjnbfeaa
open Go.RowKit PA
def I64 (n : Int) : Prop := -9223372036854775808 ≤ n ∧ n ≤ 9223372036854775807
theorem encR_length (b : List UInt8) (h : b.length ≤ 1073741824) : (encR b).length ≤ b.length + 10 := by
  rw [encR, List.length_append]
  have := Lib.uvarint_length64 (x := b.length) (by omega)
  omega
theorem bytesN_lt (s b : List UInt8) : bytesN s b < 18446744073709551616 := sumU_lt _ _
theorem coreJ_length (n : Int) (b : List UInt8) (h1 : I64 n) (hb : b.length ≤ 1000000) : (coreJ n b).length ≤ b.length + 20 := by
  rw [coreJ, List.length_append]
  have := encI_length n h1.1 h1.2
  have := encR_length b (by omega)
  omega
theorem ext_cell {J : Mem} {q i : Nat} {cs : Array Value} {t : TypeId} {f : Nat × Nat} (hJ : J q = some (.cells cs t f)) {w' : World} (he : Ext J w') : w'.cell? ⟨q, i, none⟩ = cs[i]? :=
  cell_of_row w' q i cs t f (he _ _ hJ)
theorem newWr {W w : World} {A : Assn} (h : Sat W w A) : Sat W (w.alloc (.cells #[.slice none 0 0] 37)) (sep (isWr w.heap.size []) A) :=
  isWr_mk (a := none) (n := 0) (c := 0) (bs := []) ((h.osl_nil 5 1).alloc (.cells #[.slice none 0 0] 37))
set_option maxHeartbeats 2000000 in
theorem jframe_spec {W w : World} {A : Assn} {I : Mem} (n : Int) (v : Value) (b : List UInt8) (h : Sat W w (sep (kn I) A)) (hv : rBytes.rel I [v] b) (h1 : I64 n) (h3 : b.length ≤ 1000000) :
    Calls Try.prog 12 #[.int .i64 n, v] w fun e w' => ∃ a c, e = .returned (.slice a (frameJ n b).length c) ∧ Sat W w' (sep (osl 5 1 a (frameJ n b).length c ((frameJ n b).map bv)) (sep (kn I) A)) := by
  obtain ⟨a, c, rfl, hsw, -⟩ := bytes_rel.1 hv
  have HV := Lib.hid hv
  have H1 := Lib.hid h1
  have H3 := Lib.hid h3
  have HCL := Lib.hid (coreJ_length n b h1 h3)
  have hW1 := newWr h
  have hW2 := newWr hW1
  rw [World.size_alloc] at hW2
  obtain ⟨p1, hp1⟩ : ∃ p1, p1 = w.heap.size := ⟨_, rfl⟩
  obtain ⟨w3, hw3⟩ : ∃ w3, w3 = (w.alloc (.cells #[.slice none 0 0] 37)).alloc (.cells #[.slice none 0 0] 37) := ⟨_, rfl⟩
  rw [← hp1, ← hw3] at hW2
  have HP1 := Lib.hid hp1
  have HW3 := Lib.hid hw3
  obtain ⟨nb, hnb⟩ : ∃ nb, nb = b.length := ⟨_, rfl⟩
  rw [← hnb] at HV ⊢
  clear hnb
  obtain ⟨rb, hrb⟩ : ∃ rb, rb = frameJ n b := ⟨_, rfl⟩
  have hrl : rb.length ≤ 1000040 := by rw [hrb]; have := frameJ_le n b h1.1 h1.2 (by omega); omega
  rw [← hrb]
  have HRL := Lib.hid hrl
  have HRB := Lib.hid hrb
  clear hrb hrl
  clear hsw hv h h1 h3 hW1 hp1 hw3
  go_enter Try.func12, Try.ntmps12
  go_upto_region 2 with (fail)
  rw [← HP1.out, ← HW3.out]
  go_wp2_with fail
  refine (wint_spec p1 [] n H1.out.1 H1.out.2 hW2.p1 (by simp)).mono ?_
  rintro e w4 ⟨rfl, hS4⟩
  rw [List.nil_append] at hS4
  have h4 : Sat W w4 (sep (isWr p1 (encI n)) (sep (kn I) (sep (isWr (p1 + 1) []) A))) := by simpa only [sep_comm, sep_lcomm, sep_assoc] using hS4
  have hlen : (encI n).length ≤ 1073741800 := by have := encI_length n H1.out.1 H1.out.2; omega
  have hraw := wraw_spec p1 (encI n) (.slice a nb c) b h4 HV.out hlen (by have := H3.out; omega)
  obtain ⟨cb, hcb⟩ : ∃ cb, cb = coreJ n b := ⟨_, rfl⟩
  have hcb2 : cb = encI n ++ encR b := by rw [hcb, coreJ]
  have HCB := Lib.hid hcb2
  have HCB1 := Lib.hid hcb
  have hcbl : cb.length ≤ 1000020 := by rw [hcb]; have := HCL.out; have := H3.out; omega
  have HCBL := Lib.hid hcbl
  have HRAW := Lib.hid hraw
  clear hW2 hS4 h4 hlen hraw hcb hcb2 hcbl
  go_wp2_with fail

  refine HRAW.out.mono ?_
  rintro e w6 ⟨rfl, hS6⟩
  rw [← HCB.out] at hS6
  clear HRAW
  go_wp2_with fail
  refine (wdone_spec p1 cb hS6 (by have := HCBL.out; omega)).mono ?_
  rintro e w7 ⟨a7, c7, rfl, hS7⟩
  have h7 : Sat W w7 (sep (rBytes.is [.slice a7 cb.length c7] cb) (sep (kn I) (sep (isWr p1 cb) (sep (isWr (p1 + 1) []) A)))) := by
    have := hS7.bytes_of_osl.2
    simpa only [sep_comm, sep_lcomm, sep_assoc] using this
  obtain ⟨J2, hle2, hb2, hS8⟩ := h7.learn
  have h8 : Sat W w7 (sep (isWr (p1 + 1) []) (sep (kn J2) (sep (isWr p1 cb) A))) := by simpa only [sep_comm, sep_lcomm, sep_assoc] using hS8
  have HB2 := Lib.hid hb2
  have HLE2 := Lib.hid hle2
  clear hS6 hS7 h7 hS8 hb2 hle2
  go_wp2_with fail
  refine (wraw_spec (p1 + 1) [] _ cb h8 HB2.out (by simp) (by have := HCBL.out; omega)).mono ?_
  rintro e w8 ⟨rfl, hS9⟩
  rw [List.nil_append] at hS9
  clear h8 HB2
  go_wp2_with fail
  have h9 : Sat W w8 (sep (isWr p1 cb) (sep (isWr (p1 + 1) (encR cb)) (sep (kn J2) A))) := by simpa only [sep_comm, sep_lcomm, sep_assoc] using hS9
  refine (wdone_spec p1 cb h9 (by have := HCBL.out; omega)).mono ?_
  rintro e w9 ⟨a9, c9, rfl, hS10⟩
  have h10 : Sat W w9 (sep (rBytes.is [.slice a9 cb.length c9] cb) (sep (kn J2) (sep (isWr p1 cb) (sep (isWr (p1 + 1) (encR cb)) A)))) := by
    have := hS10.bytes_of_osl.2
    simpa only [sep_comm, sep_lcomm, sep_assoc] using this
  obtain ⟨J3, hle3, hb3, hS11⟩ := h10.learn
  have HB3 := Lib.hid hb3
  have HLE3 := Lib.hid hle3
  clear hS9 h9 hS10 h10 hb3 hle3
  go_wp2_with fail
  refine (hbytes_any ⟨#[102, 114, 97, 109, 101]⟩ _ cb hS11 HB3.out (by decide) (by have := HCBL.out; omega)).mono ?_
  rintro e w10 ⟨rfl, hS12⟩
  obtain ⟨hs, hhs⟩ : ∃ hs, hs = bytesN frameL cb := ⟨_, rfl⟩
  have hhs2 : bytesN (ByteArray.mk #[102, 114, 97, 109, 101]).data.toList cb = hs := by rw [hhs]; rfl
  rw [hhs2]
  have hhl : hs < 18446744073709551616 := by rw [hhs]; exact bytesN_lt _ _
  have HHL := Lib.hid hhl
  have HHS := Lib.hid hhs
  have hel := encR_length cb (by have := HCBL.out; omega)
  have HEL := Lib.hid hel
  clear hS11 HB3 hhs hhs2 hhl hel
  have h12 : Sat W w10 (sep (isWr (p1 + 1) (encR cb)) (sep (isWr p1 cb) (sep (kn J3) A))) := by simpa only [sep_comm, sep_lcomm, sep_assoc] using hS12
  clear hS12
  go_wp2_with fail
  refine (wuint_spec (p1 + 1) (encR cb) hs HHL.out h12 (by have := HCBL.out; have := HEL.out; omega)).mono ?_
  rintro e w11 ⟨rfl, hS13⟩
  clear h12
  have hrb2 : encR cb ++ Lib.uvarint hs = rb := by rw [HRB.out, frameJ, ← HCB1.out, ← HHS.out]
  rw [hrb2] at hS13
  clear hrb2
  go_wp2_with fail
  refine (wdone_spec (p1 + 1) rb hS13 (by have := HRL.out; omega)).mono ?_
  rintro e w12 ⟨a12, c12, rfl, hS14⟩
  clear hS13
  go_wp2_with fail
  go_ret
  refine ⟨a12, c12, rfl, ?_⟩
  have h15 := hS14.p1.drop.p1.drop
  exact (h15.p1.kn_mono (Mem.le_trans HLE2.out HLE3.out)).p1
end Go.Proofs.Ytdaknmcmjnbfeaa
