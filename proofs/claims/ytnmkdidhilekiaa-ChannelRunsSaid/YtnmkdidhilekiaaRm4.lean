/- The reference model of package channel: In, in plain. -/
import Derived.Test.YtnmkdidhilekiaaRm3
namespace Go.Proofs.Ytnmkdidhilekiaa
open Go.RowKit PA
structure MOk (K : Int) (m : MEnd) : Prop where
  ack : m.acked ≤ m.sent.length
  len : m.sent.length ≤ 1000
  apart : Apart m.held
  keys : ∀ x ∈ m.held, x.1 ≤ K
  got : (m.got : Int) ≤ K
  lim : K ≤ 1000000
def mAck (m : MEnd) (a : Nat) : MEnd := { m with acked := max m.acked a }
def mOw (m : MEnd) : MEnd := { m with ow := true }
def mHold (m : MEnd) (seq : Int) (bs : List UInt8) : MEnd := { m with ow := true, held := m.held ++ [(seq, bs)] }
def mAdv (m : MEnd) (i : Nat) : MEnd := { m with held := m.held.eraseIdx i, got := m.got + 1 }
theorem abs_ack (m : MEnd) (a : Nat) : absM (mAck m a) = ackSt (absM m) a := by
  unfold ackSt absM mAck
  by_cases h : m.acked < a
  · have e : max m.acked a = a := by omega
    simp only [e]
    rw [if_pos (by show (m.acked : Int) < a; omega)]
    simp only [List.drop_drop]
    congr 2
    omega
  · have e : max m.acked a = m.acked := by omega
    simp only [e]
    rw [if_neg (by show ¬ (m.acked : Int) < a; omega)]
theorem abs_hold1 (m : MEnd) (seq : Int) (bs : List UInt8) (h1 : (m.got : Int) < seq) (h2 : mlook m.held seq = none) : absM (mHold m seq bs) = holdSt (absM m) seq bs := by
  unfold holdSt
  rw [if_pos ⟨h1, h2⟩]
  unfold absM mHold
  simp only
  congr 1
  funext q
  exact mlook_append h2
theorem abs_hold2 (m : MEnd) (seq : Int) (bs : List UInt8) (h : ¬ ((m.got : Int) < seq ∧ mlook m.held seq = none)) : absM (mOw m) = holdSt (absM m) seq bs := by
  unfold holdSt
  rw [if_neg (show ¬ ((absM m).dlv < seq ∧ (absM m).held seq = none) from h)]
  rfl
theorem abs_adv (m : MEnd) (i : Nat) (hp : Apart m.held) (h : fIdx m.held (m.got + 1) = some i) : absM (mAdv m i) = advSt (absM m) := by
  have e : mlook (m.held.eraseIdx i) = fset (mlook m.held) (m.got + 1) none := funext fun q => mlook_erase hp h q
  unfold advSt absM mAdv
  simp only [e]
  rfl
theorem apart_append {l : List (Int × List UInt8)} {k : Int} {b : List UInt8} (h : Apart l) (hk : mlook l k = none) : Apart (l ++ [(k, b)]) := by
  refine List.pairwise_append.2 ⟨h, by simp, ?_⟩
  intro x hx y hy
  simp at hy
  subst hy
  exact fIdx_none (mlook_iff.1 hk) x hx
theorem MOk.hold {K : Int} {m : MEnd} (h : MOk K m) (seq : Int) (bs : List UInt8) (hs : seq ≤ K) (h2 : mlook m.held seq = none) : MOk K (mHold m seq bs) :=
  ⟨h.ack, h.len, apart_append h.apart h2, fun x hx => by
    rcases List.mem_append.1 hx with hx | hx
    · exact h.keys x hx
    · simp at hx; subst hx; exact hs, h.got, h.lim⟩
theorem MOk.mack {K : Int} {m : MEnd} (h : MOk K m) (a : Nat) (ha : a ≤ m.sent.length) : MOk K (mAck m a) :=
  ⟨by show max m.acked a ≤ _; have := h.ack; show max m.acked a ≤ m.sent.length; omega, h.len, h.apart, h.keys, h.got, h.lim⟩
theorem MOk.mow {K : Int} {m : MEnd} (h : MOk K m) : MOk K (mOw m) := ⟨h.ack, h.len, h.apart, h.keys, h.got, h.lim⟩
theorem MOk.adv {K : Int} {m : MEnd} (h : MOk K m) (i : Nat) (hf : fIdx m.held (m.got + 1) = some i) : MOk K (mAdv m i) := by
  obtain ⟨hi, h1, _⟩ := fIdx_some hf
  refine ⟨h.ack, h.len, h.apart.sublist (List.eraseIdx_sublist _ _), fun x hx => h.keys x (List.mem_of_mem_eraseIdx hx), ?_, h.lim⟩
  have := h.keys _ (List.getElem_mem hi)
  rw [h1] at this
  show ((m.got + 1 : Nat) : Int) ≤ K
  omega
/-- In's answer is the only one. -/
theorem dlvPre_one : ∀ (o1 o2 : List (List UInt8)) (st s1 s2 : AEnd), DlvPre st o1 s1 → DlvPre st o2 s2 → s1.held (s1.dlv + 1) = none → s2.held (s2.dlv + 1) = none → o1 = o2 ∧ s1 = s2
  | [], [], st, s1, s2, h1, h2, _, _ => by cases h1; cases h2; exact ⟨rfl, rfl⟩
  | [], b :: o2, st, s1, s2, h1, ⟨h2, _⟩, h3, _ => by cases h1; rw [h3] at h2; cases h2
  | b :: o1, [], st, s1, s2, ⟨h1, _⟩, h2, _, h4 => by cases h2; rw [h4] at h1; cases h1
  | b :: o1, c :: o2, st, s1, s2, ⟨h1, h1'⟩, ⟨h2, h2'⟩, h3, h4 => by
    rw [h1] at h2
    cases h2
    obtain ⟨e1, e2⟩ := dlvPre_one o1 o2 _ _ _ h1' h2' h3 h4
    exact ⟨by rw [e1], e2⟩
theorem inPost_one {st s1 s2 : AEnd} {seq ack : Int} {bs : List UInt8} {o1 o2 : List (List UInt8)} (h1 : InPost st seq ack bs o1 s1) (h2 : InPost st seq ack bs o2 s2) : o1 = o2 ∧ s1 = s2 := by
  unfold InPost at h1 h2
  split at h1
  · rename_i hg
    rw [if_pos hg] at h2
    split at h1
    · rename_i hs
      rw [if_pos hs] at h2
      exact ⟨by rw [h1.1, h2.1], by rw [h1.2, h2.2]⟩
    · rename_i hs
      rw [if_neg hs] at h2
      exact dlvPre_one _ _ _ _ _ h1.1 h2.1 h1.2 h2.2
  · rename_i hg
    rw [if_neg hg] at h2
    exact ⟨by rw [h1.1, h2.1], by rw [h1.2, h2.2]⟩
end Go.Proofs.Ytnmkdidhilekiaa
