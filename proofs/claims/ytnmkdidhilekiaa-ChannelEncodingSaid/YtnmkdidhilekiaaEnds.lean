/- Package channel: the two ends of a channel; In's answer as data. -/
import Derived.Test.YtnmkdidhilekiaaCh7
namespace Go.Proofs.Ytnmkdidhilekiaa
open Go.RowKit PA
def ptr (p : Nat) : Value := .pointer (some ⟨p, 0, none⟩)
/-- Two ends. -/
def isTwo (P : Nat → Nat) (S : Nat → AEnd) : Assn := sep (isEnd (P 0) (S 0)) (isEnd (P 1) (S 1))
theorem isTwo_pick (P : Nat → Nat) (S : Nat → AEnd) (k : Nat) (hk : k < 2) : isTwo P S = sep (isEnd (P k) (S k)) (isEnd (P (1 - k)) (S (1 - k))) := by
  match k, hk with
  | 0, _ => rfl
  | 1, _ => exact sep_comm _ _
def upd (S : Nat → AEnd) (k : Nat) (s : AEnd) : Nat → AEnd := fun j => if j = k then s else S j
theorem isTwo_put (P : Nat → Nat) (S : Nat → AEnd) (k : Nat) (hk : k < 2) (s : AEnd) : sep (isEnd (P k) s) (isEnd (P (1 - k)) (S (1 - k))) = isTwo P (upd S k s) := by
  rw [isTwo_pick P _ k hk]
  simp only [upd, if_true]
  rw [if_neg (by omega)]
theorem _root_.PA.Sat.twoPick {W w : World} {A : Assn} {P : Nat → Nat} {S : Nat → AEnd} (h : Sat W w (sep (isTwo P S) A)) (k : Nat) (hk : k < 2) : Sat W w (sep (isEnd (P k) (S k)) (sep (isEnd (P (1 - k)) (S (1 - k))) A)) := by
  rw [isTwo_pick P S k hk, sep_assoc] at h; exact h
theorem _root_.PA.Sat.twoPut {W w : World} {A : Assn} {P : Nat → Nat} {S : Nat → AEnd} {k : Nat} {s : AEnd} (h : Sat W w (sep (isEnd (P k) s) (sep (isEnd (P (1 - k)) (S (1 - k))) A))) (hk : k < 2) : Sat W w (sep (isTwo P (upd S k s)) A) := by
  rw [← isTwo_put P S k hk, sep_assoc]; exact h
theorem two_cell {W w : World} {A : Assn} {b : Nat} {x y : Value} (h : Sat W w (sep (rsl (some ⟨b, 0, none⟩) [x, y]) A)) : w.cell? ⟨b, 0, none⟩ = some x ∧ w.cell? ⟨b, 1, none⟩ = some y := by
  obtain ⟨b', o, e, hc⟩ := h.rsl_at (by simp)
  cases e
  exact ⟨hc 0 _ rfl, by simpa using hc 1 _ rfl⟩
theorem two_cellk {W w : World} {A : Assn} {b : Nat} {f : Nat → Value} (h : Sat W w (sep (rsl (some ⟨b, 0, none⟩) [f 0, f 1]) A)) (k : Nat) (hk : k < 2) : w.cell? ⟨b, k, none⟩ = some (f k) := by
  match k, hk with
  | 0, _ => exact (two_cell h).1
  | 1, _ => exact (two_cell h).2
theorem tdiv16 (n : Int) (h1 : -9223372036854775808 ≤ n) (h2 : n ≤ 9223372036854775807) (k : Int) (hk : 2 ≤ k) : -9223372036854775808 ≤ n.tdiv k ∧ n.tdiv k ≤ 9223372036854775807 := by
  rcases Int.le_total 0 n with h | h
  · have : n.tdiv k = n / k := Int.tdiv_eq_ediv_of_nonneg h
    rw [this]
    have h3 := Int.ediv_nonneg h (by omega : 0 ≤ k)
    have h4 := Int.ediv_le_self k h
    omega
  · have h0 : n.tdiv k = -((-n).tdiv k) := by rw [Int.neg_tdiv]; omega
    have : (-n).tdiv k = (-n) / k := Int.tdiv_eq_ediv_of_nonneg (by omega)
    rw [h0, this]
    have h3 := Int.ediv_nonneg (by omega : 0 ≤ -n) (by omega : 0 ≤ k)
    have h4 := Int.ediv_le_self k (by omega : 0 ≤ -n)
    omega
set_option maxHeartbeats 1000000 in
theorem ends_spec {W w : World} {A : Assn} (n : Int) (h : Sat W w A) (b0 : -9223372036854775808 ≤ n) (b1 : n ≤ 9223372036854775807) :
    Calls Try.prog 10 #[.int .i64 n] w fun e w' => ∃ b P, e = .returned (.slice (some ⟨b, 0, none⟩) 2 2) ∧
      Sat W w' (sep (rsl (some ⟨b, 0, none⟩) [ptr (P 0), ptr (P 1)]) (sep (isTwo P fun k => newEnd (1 + aroundI (if k = 0 then n else n.tdiv 16) 16)) A)) := by
  obtain ⟨d0, d1⟩ := tdiv16 n b0 b1 16 (by omega)
  go_enter Try.func10, Try.ntmps10
  go_wp2_with fail
  refine (around_spec n 16 _ b0 b1 (by omega) (by omega)).mono ?_
  rintro e w1 ⟨rfl, rfl⟩
  obtain ⟨g1, g2⟩ := aroundI_lt n 16 (by omega)
  have hw1 : IntKind.i64.wrap (1 + aroundI n 16) = 1 + aroundI n 16 := IntWalk.i64_in _ (by omega)
  go_wp2_with fail
  refine (new_ok _ h (by omega) (by omega)).mono ?_
  rintro e w2 ⟨p0, rfl, h2⟩
  go_wp2_with fail
  refine (around_spec (n.tdiv 16) 16 _ d0 d1 (by omega) (by omega)).mono ?_
  rintro e w3 ⟨rfl, rfl⟩
  obtain ⟨g3, g4⟩ := aroundI_lt (n.tdiv 16) 16 (by omega)
  have hw2 : IntKind.i64.wrap (1 + aroundI (n.tdiv 16) 16) = 1 + aroundI (n.tdiv 16) 16 := IntWalk.i64_in _ (by omega)
  go_wp2_with fail
  refine (new_ok _ h2 (by omega) (by omega)).mono ?_
  rintro e w4 ⟨p1, rfl, h3⟩
  go_wp2_with fail
  go_ret
  have h4 := (h3.alloc (.cells #[ptr p0, ptr p1] 33)).settle
  refine ⟨w4.heap.size, fun k => if k = 0 then p0 else p1, rfl, ?_⟩
  have h5 : Sat W _ (sep (rsl (some ⟨w4.heap.size, 0, none⟩) [ptr p0, ptr p1]) _) := h4.wk fun I m ⟨x, y, d, e, ⟨e1, e2⟩, h⟩ => ⟨x, y, d, e, ⟨e1, .inr ⟨_, 0, _, _, _, rfl, e2, fun i u hu => by simpa using hu⟩⟩, h⟩
  simp only [isTwo, sep_assoc, if_true, Nat.one_ne_zero, if_false]
  exact h5.p1.q2
/-- What In answers, and what it does. -/
def InPost (st : AEnd) (seq ack : Int) (bs : List UInt8) (outs : List (List UInt8)) (s : AEnd) : Prop :=
  if validB seq ack bs.length = true ∧ ack ≤ st.ack + st.wait.length ∧ seq ≤ st.dlv + 16 then
    if seq = 0 then outs = [] ∧ s = ackSt st ack else DlvPre (holdSt (ackSt st ack) seq bs) outs s ∧ s.held (s.dlv + 1) = none
  else outs = [] ∧ s = st
theorem in_all {W w : World} {A : Assn} (p : Nat) (st : AEnd) (seq ack : Int) (v : Value) (bs : List UInt8) (h : Sat W w (sep (isEnd p st) (sep (rBytes.is [v] bs) A)))
    (hk : ∀ k, st.held k ≠ none → k ≤ 2000000000) (ha1 : 0 ≤ st.ack) (ha2 : st.ack + st.wait.length ≤ 1000000000) (hd1 : 0 ≤ st.dlv) (hd2 : st.dlv ≤ 1000000000) :
    Calls Try.prog 19 #[.pointer (some ⟨p, 0, none⟩), .agg #[.int .i64 seq, .int .i64 ack, v]] w fun e w' => ∃ a c outs s, e = .returned (.slice a outs.length c) ∧
      InPost st seq ack bs outs s ∧ Swf a outs.length c ∧ Sat W w' (sep ((rBytes.slice 1).is [.slice a outs.length c] outs) (sep (isEnd p s) A)) := by
  by_cases hg : validB seq ack bs.length = true ∧ ack ≤ st.ack + st.wait.length ∧ seq ≤ st.dlv + 16
  · have hbl : bs.length ≤ 65536 := by have := hg.1; simp [validB] at this; omega
    by_cases hs : seq = 0
    · refine (in_zero p st seq ack v bs h hg.1 hg.2.1 hg.2.2 hs ha1 ha2 hd1 hd2 hbl).mono ?_
      rintro e w' ⟨rfl, h1⟩
      exact ⟨none, 0, [], _, rfl, by rw [InPost, if_pos hg, if_pos hs]; exact ⟨rfl, rfl⟩, ⟨Nat.le_refl _, Nat.zero_le _, fun _ => rfl⟩, ((h1.rows_nil rBytes 1).osl_nil 31 1).slice_of_osl rfl⟩
    · have hs' : 0 < seq := by have := hg.1; simp [validB] at this; omega
      refine (in_ok p st seq ack v bs h hg.1 hg.2.1 hg.2.2 hs' hk ha1 ha2 hd1 hd2 hbl).mono ?_
      rintro e w' ⟨a, c, vs, outs, s, rfl, hp, hp2, h1⟩
      exact ⟨a, c, outs, s, rfl, by rw [InPost, if_pos hg, if_neg hs]; exact ⟨hp, hp2⟩, h1.swf_of_osl, h1.slice_of_osl rfl⟩
  · refine (in_bad p st seq ack v bs h ?_ ha1 ha2 hd1 hd2).mono ?_
    · by_cases h1 : validB seq ack bs.length = true
      · refine .inr ⟨h1, ?_⟩
        by_cases h2 : ack ≤ st.ack + st.wait.length
        · exact .inr ⟨h2, by by_cases h3 : seq ≤ st.dlv + 16; exact absurd ⟨h1, h2, h3⟩ hg; omega⟩
        · exact .inl (by omega)
      · exact .inl (by simpa using h1)
    · rintro e w' ⟨rfl, h1⟩
      exact ⟨none, 0, [], _, rfl, by rw [InPost, if_neg hg]; exact ⟨rfl, rfl⟩, ⟨Nat.le_refl _, Nat.zero_le _, fun _ => rfl⟩, ((h1.rows_nil rBytes 1).osl_nil 31 1).slice_of_osl rfl⟩
/-- A message that comes in its turn. -/
theorem in_next {st : AEnd} {seq ack : Int} {bs : List UInt8} {outs : List (List UInt8)} {s : AEnd} (h : InPost st seq ack bs outs s) (ha : 0 ≤ ack) (h1 : ack ≤ st.ack + st.wait.length) (h2 : seq = st.dlv + 1) (h3 : st.held = fun _ => none) (hd : 0 ≤ st.dlv) (hb : bs.length ≤ 65536) :
    outs = [bs] ∧ s = { ackSt st ack with dlv := st.dlv + 1, ow := true } := by
  have hv : validB seq ack bs.length = true := by simp [validB]; omega
  rw [InPost, if_pos ⟨hv, h1, by omega⟩, if_neg (by omega)] at h
  have e1 : (ackSt st ack).dlv = st.dlv := by unfold ackSt; split <;> rfl
  have e2 : (ackSt st ack).held = fun _ => none := by unfold ackSt; split <;> exact h3
  obtain ⟨hp, hn⟩ := h
  have hh : holdSt (ackSt st ack) seq bs = { ackSt st ack with ow := true, held := fset (fun _ => none) (st.dlv + 1) (some bs) } := by
    unfold holdSt; rw [e1, e2, if_pos ⟨by omega, rfl⟩, h2]; simp only [e1]
  rw [hh] at hp
  match outs, hp with
  | [], hp =>
    cases hp
    simp [e1, fset] at hn
  | b :: outs, ⟨hb, hp⟩ =>
    simp only [e1, fset, if_true] at hb
    cases hb
    match outs, hp with
    | [], hp =>
      refine ⟨rfl, ?_⟩
      cases hp
      simp only [advSt, e1, e2]
      congr 1
      funext x
      simp only [fset]
      split
      · rfl
      · rfl
    | b' :: outs, ⟨hb, hp⟩ =>
      simp only [advSt, e1, fset] at hb
      rw [if_neg (by omega), if_neg (by omega)] at hb
      cases hb
end Go.Proofs.Ytnmkdidhilekiaa
