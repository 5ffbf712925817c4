/- ChannelProgress, the plain part. -/
import Derived.Test.YtnmkdidhilekiaaEnds
namespace Go.Proofs.Ytnmkdidhilekiaa
open Go.RowKit PA
def msgs (m : Nat) : List (List UInt8) := (List.range m).map fun i => [UInt8.ofNat i]
theorem msgs_len (m : Nat) : (msgs m).length = m := by simp [msgs]
theorem msgs_get (m i : Nat) (h : i < (msgs m).length) : (msgs m)[i] = [UInt8.ofNat i] := by simp [msgs]
theorem msgs_succ (m : Nat) : msgs m ++ [[UInt8.ofNat m]] = msgs (m + 1) := by simp [msgs, List.range_succ]
theorem msgs_short (m a : Nat) : ∀ b ∈ (msgs m).drop a, b.length ≤ 65536 := by
  intro b hb
  obtain ⟨i, _, rfl⟩ := List.mem_map.1 (List.mem_of_mem_drop hb)
  simp
def proSt (win : Int) (m a d : Nat) (o : Bool) : AEnd := ⟨win, (msgs m).drop a, a, d, fun _ => none, o⟩
def sentSt (win : Int) (m : Nat) : AEnd := proSt win m 0 0 false
theorem sent_new (win : Int) : newEnd win = sentSt win 0 := rfl
theorem sent_succ (win : Int) (m : Nat) : { sentSt win m with wait := (sentSt win m).wait ++ [[UInt8.ofNat m]] } = sentSt win (m + 1) := by
  simp only [sentSt, proSt, List.drop_zero, msgs_succ]
/-- The two ends, x acting. -/
def PSt (win : Nat → Int) (mm : Nat → Nat) (x a d a' : Nat) (o : Bool) : Nat → AEnd := fun j => if j = x then proSt (win x) (mm x) a d o else proSt (win (1 - x)) (mm (1 - x)) a' a false
/-- The other end after j packets. -/
def PY (w : Int) (m a d a' n j : Nat) : AEnd := if j = 0 then proSt w m a' a false else proSt w m d (a + if n = 0 then 0 else j) (decide (0 < n))
theorem ack_pro (w : Int) (m a' d e : Nat) (o : Bool) (h : a' ≤ e) : ackSt (proSt w m a' d o) e = proSt w m e d o := by
  unfold ackSt proSt
  split
  · simp only [List.drop_drop]; congr 2; omega
  · rename_i hh
    have : a' = e := by simp at hh; omega
    subst this; rfl
/-- A packet of x reaches the other end. -/
theorem pro_in {w : Int} {mx my a d a' n j : Nat} {o : Bool} {outs : List (List UInt8)} {s : AEnd} (pk : Pkt)
    (hj : j < (outPkts (proSt 0 mx a d o) n).length) (hn : n ≤ mx - a) (ha : a ≤ mx) (hd : d ≤ my) (had : a' ≤ d)
    (hpk : pk = (outPkts (proSt 0 mx a d o) n)[j])
    (h : InPost (PY w my a d a' n j) pk.seq pk.ack pk.b outs s) : outs = (if n = 0 then [] else [[UInt8.ofNat (a + j)]]) ∧ s = PY w my a d a' n (j + 1) := by
  by_cases h0 : n = 0
  · subst h0
    cases o with
    | false => simp [outPkts, proSt, pkList] at hj
    | true =>
      simp [outPkts, proSt] at hj hpk
      subst hj
      subst hpk
      rw [show PY w my a d a' 0 0 = proSt w my a' a false from rfl] at h
      unfold InPost at h
      rw [if_pos ⟨by simp [validB], by simp [proSt, msgs_len]; omega, by simp [proSt]; omega⟩, ack_pro _ _ _ _ _ _ had] at h
      simpa [PY] using h
  · have e : outPkts (proSt 0 mx a d o) n = pkList a d (((msgs mx).drop a).take n) := by simp [outPkts, h0, proSt]
    have hl : j < n := by rw [e, pkList_length, List.length_take, List.length_drop, msgs_len] at hj; omega
    have hpk' : pk = ⟨a + j + 1, d, [UInt8.ofNat (a + j)]⟩ := by
      rw [hpk]
      have : (outPkts (proSt 0 mx a d o) n)[j] = (pkList a d (((msgs mx).drop a).take n))[j]'(by rw [← e]; exact hj) := by congr 1
      rw [this, pkList_get]
      simp [msgs_get]
    subst hpk'
    simp only at h
    have hs : PY w my a d a' n j = proSt w my (if j = 0 then a' else d) (a + j) (decide (0 < j)) := by
      unfold PY
      by_cases hj0 : j = 0
      · subst hj0; simp
      · rw [if_neg hj0, if_neg h0, if_neg hj0]; congr 1; simp; omega
    rw [hs] at h
    have hle : (if j = 0 then a' else d) ≤ d := by split <;> omega
    have := in_next h (by omega) (by simp [proSt, msgs_len]; split <;> omega) (by simp [proSt]) rfl (by simp [proSt]; omega) (by simp)
    rw [if_neg h0]
    refine ⟨this.1, ?_⟩
    rw [this.2, ack_pro _ _ _ _ _ _ hle]
    simp [PY, proSt, h0]
    omega
end Go.Proofs.Ytnmkdidhilekiaa
