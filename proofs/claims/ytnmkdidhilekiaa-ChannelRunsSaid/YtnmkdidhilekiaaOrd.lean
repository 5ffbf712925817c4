/- ChannelOrder, the plain part: what holds between the two ends, the messages sent and the packets on the link. -/
import Derived.Test.YtnmkdidhilekiaaEnds
namespace Go.Proofs.Ytnmkdidhilekiaa
open Go.RowKit PA
/-- What y has got and holds of the messages L of the other end. -/
def HeldOk (L : List (List UInt8)) (s : AEnd) : Prop := ∀ q b, s.held q = some b → s.dlv < q ∧ L[(q - 1).toNat]? = some b
theorem dlv_ok (L : List (List UInt8)) : ∀ (outs : List (List UInt8)) (st s : AEnd), DlvPre st outs s → 0 ≤ st.dlv → HeldOk L st →
    s.dlv = st.dlv + outs.length ∧ (∀ r (h : r < outs.length), L[st.dlv.toNat + r]? = some outs[r]) ∧ HeldOk L s ∧ s.win = st.win ∧ s.wait = st.wait ∧ s.ack = st.ack
  | [], st, s, h, _, hh => by
    cases h
    exact ⟨by simp, fun r h => by simp at h, hh, rfl, rfl, rfl⟩
  | b :: outs, st, s, ⟨h1, h2⟩, h0, hh => by
    have hb := hh _ _ h1
    have hh2 : HeldOk L (advSt st) := by
      intro q c hq
      simp only [advSt, fset] at hq
      split at hq
      · cases hq
      · rename_i hne
        have := hh q c hq
        refine ⟨?_, this.2⟩
        show st.dlv + 1 < q
        omega
    obtain ⟨e1, e2, e3, e4, e5, e6⟩ := dlv_ok L outs (advSt st) s h2 (by show 0 ≤ st.dlv + 1; omega) hh2
    refine ⟨?_, ?_, e3, e4, e5, e6⟩
    · rw [e1]; simp [advSt]; omega
    · intro r hr
      cases r with
      | zero =>
        rw [Nat.add_zero, show st.dlv.toNat = (st.dlv + 1 - 1).toNat by omega]
        exact hb.2
      | succ r =>
        have := e2 r (by simpa using hr)
        rw [show st.dlv.toNat + (r + 1) = (advSt st).dlv.toNat + r by simp [advSt]; omega, this]
        simp
structure OSt where
  S : Nat → AEnd
  sent : Nat → List (List UInt8)
  link : List (Pkt × Nat)
def PkOk (o : OSt) (x : Pkt × Nat) : Prop :=
  x.2 < 2 ∧ 0 ≤ x.1.ack ∧ x.1.ack ≤ (o.S (1 - x.2)).dlv ∧ (x.1.seq = 0 ∧ x.1.b = [] ∨ 1 ≤ x.1.seq ∧ (o.sent (1 - x.2))[(x.1.seq - 1).toNat]? = some x.1.b)
/-- k's messages, and what the other end has of them. -/
def Way (i : Nat) (x y : AEnd) (L : List (List UInt8)) : Prop :=
  1 ≤ x.win ∧ x.win ≤ 16 ∧ x.wait = L.drop x.ack.toNat ∧ 0 ≤ x.ack ∧ x.ack ≤ y.dlv ∧ y.dlv ≤ L.length ∧ HeldOk L y ∧ L.length ≤ i ∧ ∀ b ∈ L, b.length = 2
def OInv (i : Nat) (o : OSt) : Prop := (∀ k, k < 2 → Way i (o.S k) (o.S (1 - k)) (o.sent k)) ∧ ∀ x ∈ o.link, PkOk o x
theorem getElem?_app {α : Type} {L M : List α} {n : Nat} {b : α} (h : L[n]? = some b) : (L ++ M)[n]? = some b := by
  rw [List.getElem?_append_left (List.getElem?_eq_some_iff.1 h).1]; exact h
/-- A message is sent. -/
theorem ord_send {i : Nat} {o : OSt} (h : OInv i o) (k : Nat) (hk : k < 2) (b : List UInt8) (hb : b.length = 2) :
    OInv (i + 1) { o with S := upd o.S k { o.S k with wait := (o.S k).wait ++ [b] }, sent := fun j => if j = k then o.sent k ++ [b] else o.sent j } := by
  obtain ⟨h1, h2⟩ := h
  have hdlv : ∀ j, (upd o.S k { o.S k with wait := (o.S k).wait ++ [b] } j).dlv = (o.S j).dlv := by
    intro j; unfold upd; split
    · rename_i e; rw [e]
    · rfl
  have hheld : ∀ j, (upd o.S k { o.S k with wait := (o.S k).wait ++ [b] } j).held = (o.S j).held := by
    intro j; unfold upd; split
    · rename_i e; rw [e]
    · rfl
  refine ⟨?_, ?_⟩
  · intro j hj
    have hw := h1 j hj
    obtain ⟨w1, w2, w3, w4, w5, w6, w7, w8, w9⟩ := hw
    by_cases e : j = k
    · subst e
      have e1 : upd o.S j { o.S j with wait := (o.S j).wait ++ [b] } j = { o.S j with wait := (o.S j).wait ++ [b] } := by simp [upd]
      simp only [if_true]
      refine ⟨by rw [e1]; exact w1, by rw [e1]; exact w2, ?_, by rw [e1]; exact w4, ?_, ?_, ?_, ?_, ?_⟩
      · rw [e1]
        show (o.S j).wait ++ [b] = (o.sent j ++ [b]).drop (o.S j).ack.toNat
        rw [List.drop_append_of_le_length (by omega), ← w3]
      · rw [e1, hdlv]; exact w5
      · rw [hdlv, List.length_append]; simp; omega
      · intro q c hq
        rw [hheld] at hq
        rw [hdlv]
        exact ⟨(w7 q c hq).1, getElem?_app (w7 q c hq).2⟩
      · rw [List.length_append]; simp; omega
      · intro c hc
        rcases List.mem_append.1 hc with hc | hc
        · exact w9 c hc
        · simp at hc; rw [hc]; exact hb
    · have e1 : upd o.S k { o.S k with wait := (o.S k).wait ++ [b] } j = o.S j := by simp [upd, e]
      simp only [if_neg e]
      refine ⟨by rw [e1]; exact w1, by rw [e1]; exact w2, by rw [e1]; exact w3, by rw [e1]; exact w4, by rw [e1, hdlv]; exact w5, by rw [hdlv]; exact w6, ?_, by omega, w9⟩
      intro q c hq
      rw [hheld] at hq
      rw [hdlv]
      exact w7 q c hq
  · intro x hx
    obtain ⟨p1, p2, p3, p4⟩ := h2 x hx
    refine ⟨p1, p2, by simp only [hdlv]; exact p3, ?_⟩
    rcases p4 with p4 | p4
    · exact .inl p4
    · refine .inr ⟨p4.1, ?_⟩
      show (if 1 - x.2 = k then o.sent k ++ [b] else o.sent (1 - x.2))[(x.1.seq - 1).toNat]? = some x.1.b
      split
      · rename_i e
        rw [← e]
        exact getElem?_app p4.2
      · exact p4.2
theorem OInv.up {i : Nat} {o : OSt} (h : OInv i o) : OInv (i + 1) o := by
  refine ⟨fun k hk => ?_, h.2⟩
  obtain ⟨w1, w2, w3, w4, w5, w6, w7, w8, w9⟩ := h.1 k hk
  exact ⟨w1, w2, w3, w4, w5, w6, w7, by omega, w9⟩
/-- The packets of Out are laid on the link. -/
theorem ord_out {i : Nat} {o : OSt} (h : OInv i o) (k : Nat) (hk : k < 2) (n : Nat) (hn : n ≤ (o.S k).wait.length) :
    OInv i { o with S := upd o.S k { o.S k with ow := false }, link := o.link ++ (outPkts (o.S k) n).map fun p => (p, 1 - k) } := by
  obtain ⟨h1, h2⟩ := h
  have hu : ∀ j, (upd o.S k { o.S k with ow := false } j).dlv = (o.S j).dlv ∧ (upd o.S k { o.S k with ow := false } j).held = (o.S j).held ∧ (upd o.S k { o.S k with ow := false } j).win = (o.S j).win ∧ (upd o.S k { o.S k with ow := false } j).wait = (o.S j).wait ∧ (upd o.S k { o.S k with ow := false } j).ack = (o.S j).ack := by
    intro j; unfold upd; split
    · rename_i e; rw [e]; exact ⟨rfl, rfl, rfl, rfl, rfl⟩
    · exact ⟨rfl, rfl, rfl, rfl, rfl⟩
  refine ⟨?_, ?_⟩
  · intro j hj
    obtain ⟨w1, w2, w3, w4, w5, w6, w7, w8, w9⟩ := h1 j hj
    refine ⟨by rw [(hu j).2.2.1]; exact w1, by rw [(hu j).2.2.1]; exact w2, by rw [(hu j).2.2.2.1, (hu j).2.2.2.2]; exact w3, by rw [(hu j).2.2.2.2]; exact w4, by rw [(hu j).2.2.2.2, (hu (1 - j)).1]; exact w5, by rw [(hu (1 - j)).1]; exact w6, ?_, w8, w9⟩
    intro q c hq
    rw [(hu (1 - j)).2.1] at hq
    rw [(hu (1 - j)).1]
    exact w7 q c hq
  · intro x hx
    have old : PkOk o x → PkOk { o with S := upd o.S k { o.S k with ow := false }, link := o.link ++ (outPkts (o.S k) n).map fun p => (p, 1 - k) } x := by
      rintro ⟨p1, p2, p3, p4⟩
      exact ⟨p1, p2, by simp only [(hu (1 - x.2)).1]; exact p3, p4⟩
    rcases List.mem_append.1 hx with hx | hx
    · exact old (h2 x hx)
    · refine old ?_
      obtain ⟨w1, w2, w3, w4, w5, w6, w7, w8, w9⟩ := h1 k hk
      obtain ⟨v1, v2, v3, v4, v5, v6, v7, v8, v9⟩ := h1 (1 - k) (by omega)
      have hkk : 1 - (1 - k) = k := by omega
      rw [hkk] at v5
      obtain ⟨p, hp, rfl⟩ := List.mem_map.1 hx
      unfold outPkts at hp
      split at hp
      · simp at hp
        subst hp
        refine ⟨by show 1 - k < 2; omega, ?_, ?_, .inl ⟨rfl, rfl⟩⟩
        · show 0 ≤ (o.S k).dlv; omega
        · show (o.S k).dlv ≤ (o.S (1 - (1 - k))).dlv; rw [hkk]; exact Int.le_refl _
      · obtain ⟨r, hr, rfl⟩ := List.getElem_of_mem hp
        rw [pkList_get]
        rw [pkList_length, List.length_take] at hr
        refine ⟨by show 1 - k < 2; omega, ?_, ?_, .inr ⟨?_, ?_⟩⟩
        · show 0 ≤ (o.S k).dlv; omega
        · show (o.S k).dlv ≤ (o.S (1 - (1 - k))).dlv; rw [hkk]; exact Int.le_refl _
        · show 1 ≤ (o.S k).ack + r + 1; omega
        · show (o.sent (1 - (1 - k)))[((o.S k).ack + r + 1 - 1).toNat]? = some (((o.S k).wait.take n)[r]'(by rw [List.length_take]; omega))
          rw [hkk, List.getElem_take]
          have : (o.S k).wait[r]? = some ((o.S k).wait[r]'(by omega)) := List.getElem?_eq_getElem _
          rw [← this, w3, List.getElem?_drop]
          congr 1
          omega
/-- A packet comes. -/
theorem ord_in {i : Nat} {o : OSt} (h : OInv i o) (pk : Pkt) (t : Nat) (hm : (pk, t) ∈ o.link) (outs : List (List UInt8)) (s : AEnd) (hp : InPost (o.S t) pk.seq pk.ack pk.b outs s) :
    OInv i { o with S := upd o.S t s } ∧ s.dlv = (o.S t).dlv + outs.length ∧ ∀ r (hr : r < outs.length), (o.sent (1 - t))[(o.S t).dlv.toNat + r]? = some outs[r] := by
  obtain ⟨h1, h2⟩ := h
  obtain ⟨p1, p2, p3, p4⟩ := h2 _ hm
  dsimp only at p1 p2 p3 p4
  obtain ⟨w1, w2, w3, w4, w5, w6, w7, w8, w9⟩ := h1 t p1
  obtain ⟨v1, v2, v3, v4, v5, v6, v7, v8, v9⟩ := h1 (1 - t) (by omega)
  have htt : 1 - (1 - t) = t := by omega
  rw [htt] at v5 v6 v7
  -- what is to be shown of s
  have key : s.win = (o.S t).win ∧ s.wait = (o.sent t).drop s.ack.toNat ∧ 0 ≤ s.ack ∧ s.ack ≤ (o.S (1 - t)).dlv ∧ HeldOk (o.sent (1 - t)) s ∧ s.dlv = (o.S t).dlv + outs.length ∧ s.dlv ≤ (o.sent (1 - t)).length ∧ ∀ r (hr : r < outs.length), (o.sent (1 - t))[(o.S t).dlv.toNat + r]? = some outs[r] := by
    have ackok : (ackSt (o.S t) pk.ack).win = (o.S t).win ∧ (ackSt (o.S t) pk.ack).wait = (o.sent t).drop (ackSt (o.S t) pk.ack).ack.toNat ∧ 0 ≤ (ackSt (o.S t) pk.ack).ack ∧ (ackSt (o.S t) pk.ack).ack ≤ (o.S (1 - t)).dlv ∧ (ackSt (o.S t) pk.ack).held = (o.S t).held ∧ (ackSt (o.S t) pk.ack).dlv = (o.S t).dlv := by
      unfold ackSt
      split
      · refine ⟨rfl, ?_, p2, p3, rfl, rfl⟩
        show (o.S t).wait.drop (pk.ack - (o.S t).ack).toNat = (o.sent t).drop pk.ack.toNat
        rw [w3, List.drop_drop]
        congr 1
        omega
      · exact ⟨rfl, w3, w4, w5, rfl, rfl⟩
    unfold InPost at hp
    split at hp
    · split at hp
      · obtain ⟨rfl, rfl⟩ := hp
        obtain ⟨a1, a2, a3, a4, a5, a6⟩ := ackok
        refine ⟨a1, a2, a3, a4, ?_, by rw [a6]; simp, by rw [a6]; exact v6, fun r hr => by simp at hr⟩
        intro q c hq
        rw [a5] at hq
        rw [a6]
        exact v7 q c hq
      · rename_i hs
        obtain ⟨hd, -⟩ := hp
        obtain ⟨a1, a2, a3, a4, a5, a6⟩ := ackok
        have hseq : 1 ≤ pk.seq ∧ (o.sent (1 - t))[(pk.seq - 1).toNat]? = some pk.b := by
          rcases p4 with p4 | p4
          · exact absurd p4.1 hs
          · exact p4
        have hh : HeldOk (o.sent (1 - t)) (holdSt (ackSt (o.S t) pk.ack) pk.seq pk.b) := by
          intro q c hq
          show (ackSt (o.S t) pk.ack).dlv < q ∧ _
          simp only [holdSt] at hq
          split at hq
          · rename_i hc
            simp only [fset] at hq
            split at hq
            · rename_i e
              cases hq
              subst e
              exact ⟨hc.1, hseq.2⟩
            · rw [a5] at hq; rw [a6]; exact v7 q c hq
          · rw [a5] at hq; rw [a6]; exact v7 q c hq
        obtain ⟨e1, e2, e3, e4, e5, e6⟩ := dlv_ok _ _ _ _ hd (by show 0 ≤ (ackSt (o.S t) pk.ack).dlv; rw [a6]; omega) hh
        have d1 : (holdSt (ackSt (o.S t) pk.ack) pk.seq pk.b).dlv = (o.S t).dlv := a6
        rw [d1] at e1 e2
        have hlen : s.dlv ≤ (o.sent (1 - t)).length := by
          rw [e1]
          cases outs with
          | nil => simpa using v6
          | cons b outs =>
            have := (List.getElem?_eq_some_iff.1 (e2 outs.length (by simp))).1
            simp only [List.length_cons]; omega
        refine ⟨e4.trans a1, ?_, ?_, ?_, e3, e1, hlen, e2⟩
        · rw [e5, e6]; exact a2
        · rw [e6]; exact a3
        · rw [e6]; exact a4
    · obtain ⟨rfl, rfl⟩ := hp
      exact ⟨rfl, w3, w4, w5, v7, by simp, v6, fun r hr => by simp at hr⟩
  obtain ⟨k1, k2, k3, k4, k5, k6, k7, k8⟩ := key
  have ut : upd o.S t s t = s := by simp [upd]
  have uo : upd o.S t s (1 - t) = o.S (1 - t) := by simp only [upd]; rw [if_neg (by omega)]
  refine ⟨⟨?_, ?_⟩, k6, k8⟩
  · intro j hj
    by_cases e : j = t
    · subst e
      show Way i (upd o.S j s j) (upd o.S j s (1 - j)) (o.sent j)
      rw [ut, uo]
      exact ⟨by rw [k1]; exact w1, by rw [k1]; exact w2, k2, k3, k4, w6, w7, w8, w9⟩
    · obtain rfl : j = 1 - t := by omega
      show Way i (upd o.S t s (1 - t)) (upd o.S t s (1 - (1 - t))) (o.sent (1 - t))
      rw [htt, ut, uo]
      exact ⟨v1, v2, v3, v4, by rw [k6]; omega, k7, k5, v8, v9⟩
  · intro x hx
    obtain ⟨q1, q2, q3, q4⟩ := h2 x hx
    refine ⟨q1, q2, ?_, q4⟩
    show x.1.ack ≤ (upd o.S t s (1 - x.2)).dlv
    by_cases e : 1 - x.2 = t
    · rw [e, ut, k6]; rw [e] at q3; omega
    · simp only [upd]; rw [if_neg e]; exact q3
end Go.Proofs.Ytnmkdidhilekiaa
