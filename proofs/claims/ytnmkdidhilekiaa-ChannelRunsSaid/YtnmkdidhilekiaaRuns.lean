/- ChannelRuns: what the loop's variables hold. -/
import Derived.Test.YtnmkdidhilekiaaRm5
import Derived.Test.YtnmkdidhilekiaaOrd2
namespace Go.Proofs.Ytnmkdidhilekiaa
open Go.RowKit PA
def linkR (al : Option Addr) (cl : Nat) (lc : List Value) (at' : Option Addr) (ct : Nat) (l : List (Pkt × Nat)) : Assn :=
  sep (osl 40 3 al l.length cl lc) (sep ((rPkt.rows 3).is lc (l.map (·.1))) (osl 3 1 at' l.length ct (l.map fun x => .int .i64 x.2)))
theorem linkR_get {W w : World} {X : Assn} {al at' : Option Addr} {cl ct : Nat} {lc : List Value} {l : List (Pkt × Nat)} (h : Sat W w (sep (linkR al cl lc at' ct l) X)) (i : Nat) (hi : i < l.length) :
    ∃ g gt v, al = some ⟨g, 0, none⟩ ∧ at' = some ⟨gt, 0, none⟩ ∧ w.cell? ⟨gt, i, none⟩ = some (.int .i64 l[i].2) ∧ w.cell? ⟨g, i * 3, none⟩ = some (.int .i64 l[i].1.seq) ∧ w.cell? ⟨g, i * 3 + 1, none⟩ = some (.int .i64 l[i].1.ack) ∧ w.cell? ⟨g, i * 3 + 2, none⟩ = some v ∧
      Sat W w (sep (rBytes.is [v] l[i].1.b) (sep (linkR al cl lc at' ct l) X)) := by
  have h' : Sat W w (sep (osl 40 3 al (l.map (·.1)).length cl lc) (sep ((rPkt.rows 3).is lc (l.map (·.1))) (sep (osl 3 1 at' l.length ct (l.map fun x => .int .i64 x.2)) X))) := by
    rw [List.length_map]; simpa only [linkR, sep_comm, sep_lcomm, sep_assoc] using h
  obtain ⟨g, cv, rfl, hl, hc, hS⟩ := osl_row_get (by omega) h' i (by rw [List.length_map]; exact hi)
  obtain ⟨v, rfl, _⟩ := hS.pers_heap
  have hne : (l.map fun x => (.int .i64 x.2 : Value)) ≠ [] := by intro e; have := congrArg List.length e; rw [List.length_map, List.length_nil] at this; omega
  obtain ⟨gt, rfl, hct⟩ := h'.p2.osl_at hne
  have hli : (l.map (·.1))[i]'(by rw [List.length_map]; exact hi) = l[i].1 := by simp
  rw [hli] at hS hc
  refine ⟨g, gt, v, rfl, rfl, hct i _ (by rw [List.getElem?_map, List.getElem?_eq_getElem hi]; rfl), hc 0 _ rfl, hc 1 _ rfl, hc 2 _ rfl, ?_⟩
  have h2 := hS.is_imp (T := rBytes) (ds := [v]) (y := l[i].1.b) (by
    rintro I ⟨v', e, h'⟩
    simp at e
    subst e
    exact h')
  rw [List.length_map] at h2
  simpa only [linkR, sep_comm, sep_lcomm, sep_assoc] using h2
theorem linkR_snoc {W w : World} {X : Assn} {a2 a3 : Option Addr} {c2 c3 y : Nat} {lc : List Value} {l : List (Pkt × Nat)} {pk : Pkt} {v : Value}
    (h : Sat W w (sep (osl 40 3 a2 (l.length + 1) c2 (lc ++ [.int .i64 pk.seq, .int .i64 pk.ack, v])) (sep (osl 3 1 a3 (l.length + 1) c3 ((l.map fun x => .int .i64 x.2) ++ [.int .i64 y])) (sep (rBytes.is [v] pk.b) (sep ((rPkt.rows 3).is lc (l.map (·.1))) X))))) :
    Sat W w (sep (linkR a2 c2 (lc ++ [.int .i64 pk.seq, .int .i64 pk.ack, v]) a3 c3 (l ++ [(pk, y)])) X) := by
  have h1 : Sat W w (sep (rPkt.is [.int .i64 pk.seq, .int .i64 pk.ack, v] pk) _) := h.p2.is_imp (T := rPkt) (ds := [.int .i64 pk.seq, .int .i64 pk.ack, v]) (y := pk) fun I hI => ⟨v, rfl, hI⟩
  have h2 := (h1.p3.snoc rfl)
  simp only [linkR, List.length_append, List.length_singleton, List.map_append, List.map_cons, List.map_nil]
  simpa only [sep_comm, sep_lcomm, sep_assoc] using h2
def updM (M : Nat → MEnd) (k : Nat) (m : MEnd) : Nat → MEnd := fun j => if j = k then m else M j
def absN (M : Nat → MEnd) : Nat → AEnd := fun k => absM (M k)
theorem absN_upd (M : Nat → MEnd) (k : Nat) (m : MEnd) : absN (updM M k m) = upd (absN M) k (absM m) := by
  funext j; unfold absN updM upd; split <;> rfl
/-- One end of the model, after i calls. -/
structure ROk (i : Nat) (m : MEnd) : Prop where
  ok : MOk 60 m
  win1 : 1 ≤ m.win
  win2 : m.win ≤ 16
  rdy : mlook m.held (m.got + 1) = none
  sent : m.sent.length ≤ i
  held : m.held.length ≤ i
  short : ∀ b ∈ m.sent, b.length = 2
theorem ROk.up {i : Nat} {m : MEnd} (h : ROk i m) : ROk (i + 1) m := ⟨h.ok, h.win1, h.win2, h.rdy, by have := h.sent; omega, by have := h.held; omega, h.short⟩
def RInv (i : Nat) (M : Nat → MEnd) (l : List (Pkt × Nat)) : Prop := (∀ k, k < 2 → ROk i (M k)) ∧ ∀ x ∈ l, x.2 < 2 ∧ x.1.seq ≤ 60
theorem RInv.up {i : Nat} {M : Nat → MEnd} {l : List (Pkt × Nat)} (h : RInv i M l) : RInv (i + 1) M l := ⟨fun k hk => (h.1 k hk).up, h.2⟩
theorem RInv.upd {i : Nat} {M : Nat → MEnd} {l : List (Pkt × Nat)} (h : RInv i M l) (k : Nat) (m : MEnd) (hm : ROk (i + 1) m) : RInv (i + 1) (updM M k m) l := by
  refine ⟨fun j hj => ?_, h.2⟩
  unfold updM
  split
  · exact hm
  · exact (h.1 j hj).up
theorem ROk.send {i : Nat} {m : MEnd} (h : ROk i m) (hi : i < 60) (b : List UInt8) (hb : b.length = 2) : ROk (i + 1) { m with sent := m.sent ++ [b] } := by
  have h1 := h.ok
  refine ⟨⟨?_, ?_, h1.apart, h1.keys, h1.got, h1.lim⟩, h.win1, h.win2, h.rdy, ?_, by have := h.held; show m.held.length ≤ _; omega, ?_⟩
  · have := h1.ack; show m.acked ≤ (m.sent ++ [b]).length; rw [List.length_append]; omega
  · have := h.sent; show (m.sent ++ [b]).length ≤ 1000; rw [List.length_append, List.length_singleton]; omega
  · have := h.sent; show (m.sent ++ [b]).length ≤ i + 1; rw [List.length_append, List.length_singleton]; omega
  · intro c hc
    rcases List.mem_append.1 hc with hc | hc
    · exact h.short c hc
    · simp at hc; rw [hc]; exact hb
theorem abs_send {m : MEnd} (h : m.acked ≤ m.sent.length) (b : List UInt8) : absM { m with sent := m.sent ++ [b] } = { absM m with wait := (absM m).wait ++ [b] } := by
  unfold absM
  simp only
  rw [List.drop_append_of_le_length h]
theorem ROk.out {i : Nat} {m : MEnd} (h : ROk i m) : ROk i { m with ow := false } :=
  ⟨⟨h.ok.ack, h.ok.len, h.ok.apart, h.ok.keys, h.ok.got, h.ok.lim⟩, h.win1, h.win2, h.rdy, h.sent, h.held, h.short⟩
theorem abs_out (m : MEnd) : absM { m with ow := false } = { absM m with ow := false } := rfl
theorem RInv.laid {i : Nat} {M : Nat → MEnd} {l : List (Pkt × Nat)} (h : RInv i M l) (hi : i ≤ 60) (k n : Nat) (hk : k < 2) (hn : n ≤ (absM (M k)).wait.length) : RInv i M (l ++ (outPkts (absM (M k)) n).map fun p => (p, 1 - k)) := by
  refine ⟨h.1, fun x hx => ?_⟩
  rcases List.mem_append.1 hx with hx | hx
  · exact h.2 x hx
  · obtain ⟨p, hp, rfl⟩ := List.mem_map.1 hx
    refine ⟨by show 1 - k < 2; omega, ?_⟩
    unfold outPkts at hp
    split at hp
    · simp at hp; subst hp; show (0 : Int) ≤ 60; omega
    · obtain ⟨r, hr, rfl⟩ := List.getElem_of_mem hp
      rw [pkList_get]
      rw [pkList_length, List.length_take] at hr
      have h1 := (h.1 k hk).sent
      have h2 := (h.1 k hk).ok.ack
      have h3 : (absM (M k)).wait.length = (M k).sent.length - (M k).acked := by show ((M k).sent.drop (M k).acked).length = _; rw [List.length_drop]
      show ((M k).acked : Int) + r + 1 ≤ 60
      omega
theorem ROk.inn {i : Nat} {m m' : MEnd} (h : ROk i m) (hok : MOk 60 m') (hr : mlook m'.held (m'.got + 1) = none) (hs : m'.sent = m.sent) (hw : m'.win = m.win) (hl : m'.held.length ≤ m.held.length + 1) : ROk (i + 1) m' :=
  ⟨hok, by rw [hw]; exact h.win1, by rw [hw]; exact h.win2, hr, by rw [hs]; have := h.sent; omega, by have := h.held; omega, by rw [hs]; exact h.short⟩
theorem held_le {m : MEnd} (h : MOk 60 m) (k : Int) (hk : (absM m).held k ≠ none) : k ≤ 2000000000 := by
  cases hf : fIdx m.held k with
  | none => exact absurd (mlook_none hf) hk
  | some i =>
    obtain ⟨hi, h1, _⟩ := fIdx_some hf
    have := h.keys _ (List.getElem_mem hi)
    omega
def RunsA (b : Nat) (P : Nat → Nat) (bm : Nat) (Q : Nat → Nat) (M : Nat → MEnd) : Assn :=
  sep (rsl (some ⟨b, 0, none⟩) [ptr (P 0), ptr (P 1)]) (sep (isTwo P (absN M)) (sep (rsl (some ⟨bm, 0, none⟩) [ptr (Q 0), ptr (Q 1)]) (two fun k => isM (Q k) (M k))))
def RunsCore (W : World) (b : Nat) (P : Nat → Nat) (bm : Nat) (Q : Nat → Nat) (i : Nat) (lv tv : Value) (wr : World) : Prop :=
  ∃ (M : Nat → MEnd) (l : List (Pkt × Nat)) (al : Option Addr) (cl : Nat) (lc : List Value) (at' : Option Addr) (ct : Nat),
    lv = .slice al l.length cl ∧ tv = .slice at' l.length ct ∧ l.length ≤ 16 * i ∧ RInv i M l ∧ Sat W wr (sep (RunsA b P bm Q M) (linkR al cl lc at' ct l))
def RunsRel (W : World) (b : Nat) (P : Nat → Nat) (bm : Nat) (Q : Nat → Nat) (len : Nat) (lv tv iv : Value) (wr : World) : Prop :=
  ∃ i : Nat, i ≤ len ∧ i ≤ 60 ∧ iv = .int .i64 i ∧ RunsCore W b P bm Q i lv tv wr
theorem RunsCore.rel {W wc : World} {b : Nat} {P : Nat → Nat} {bm : Nat} {Q : Nat → Nat} {i : Nat} {lv tv : Value} (h : RunsCore W b P bm Q i lv tv wc) : ∃ R : World → Prop, R wc ∧ ∀ w', R w' ↔ RunsCore W b P bm Q i lv tv w' := ⟨_, h, fun _ => Iff.rfl⟩
/-- The k-th end and its model, in front. -/
theorem runsA_pick {b : Nat} {P : Nat → Nat} {bm : Nat} {Q : Nat → Nat} {M : Nat → MEnd} (k : Nat) (hk : k < 2) : RunsA b P bm Q M = sep (isEnd (P k) (absM (M k))) (sep (isM (Q k) (M k)) (sep (rsl (some ⟨b, 0, none⟩) [ptr (P 0), ptr (P 1)]) (sep (rsl (some ⟨bm, 0, none⟩) [ptr (Q 0), ptr (Q 1)]) (sep (isEnd (P (1 - k)) (absM (M (1 - k)))) (isM (Q (1 - k)) (M (1 - k))))))) := by
  simp only [RunsA, isTwo_pick P (absN M) k hk, two_pick (fun k => isM (Q k) (M k)) k hk, absN]
  simp only [sep_comm, sep_lcomm, sep_assoc]
theorem runsA_put {b : Nat} {P : Nat → Nat} {bm : Nat} {Q : Nat → Nat} {M : Nat → MEnd} (k : Nat) (hk : k < 2) (m : MEnd) : sep (isEnd (P k) (absM m)) (sep (isM (Q k) m) (sep (rsl (some ⟨b, 0, none⟩) [ptr (P 0), ptr (P 1)]) (sep (rsl (some ⟨bm, 0, none⟩) [ptr (Q 0), ptr (Q 1)]) (sep (isEnd (P (1 - k)) (absM (M (1 - k)))) (isM (Q (1 - k)) (M (1 - k))))))) = RunsA b P bm Q (updM M k m) := by
  rw [runsA_pick k hk]
  have e1 : updM M k m k = m := by simp [updM]
  have e2 : updM M k m (1 - k) = M (1 - k) := by simp only [updM]; rw [if_neg (by omega)]
  rw [e1, e2]
theorem runs_cells {W w : World} {X : Assn} {b : Nat} {P : Nat → Nat} {bm : Nat} {Q : Nat → Nat} {M : Nat → MEnd} (h : Sat W w (sep (RunsA b P bm Q M) X)) (k : Nat) (hk : k < 2) :
    w.cell? ⟨b, k, none⟩ = some (.pointer (some ⟨P k, 0, none⟩)) ∧ w.cell? ⟨bm, k, none⟩ = some (.pointer (some ⟨Q k, 0, none⟩)) := by
  simp only [RunsA, sep_assoc] at h
  exact ⟨two_cellk (f := fun k => ptr (P k)) h k hk, two_cellk (f := fun k => ptr (Q k)) h.p2 k hk⟩
theorem runs_send_core {W w : World} {b : Nat} {P : Nat → Nat} {bm : Nat} {Q : Nat → Nat} {i k : Nat} {M : Nat → MEnd} {l : List (Pkt × Nat)} {al : Option Addr} {cl : Nat} {lc : List Value} {at' : Option Addr} {ct : Nat} {bs : List UInt8}
    (hI : RInv i M l) (hll : l.length ≤ 16 * i) (hi : i < 60) (hk : k < 2) (hb : bs.length = 2)
    (h : Sat W w (sep (isM (Q k) { M k with sent := (M k).sent ++ [bs] }) (sep (isEnd (P k) { absM (M k) with wait := (absM (M k)).wait ++ [bs] }) (sep (rsl (some ⟨b, 0, none⟩) [ptr (P 0), ptr (P 1)]) (sep (rsl (some ⟨bm, 0, none⟩) [ptr (Q 0), ptr (Q 1)]) (sep (isEnd (P (1 - k)) (absM (M (1 - k)))) (sep (isM (Q (1 - k)) (M (1 - k))) (linkR al cl lc at' ct l)))))))) :
    RunsCore W b P bm Q (i + 1) (.slice al l.length cl) (.slice at' l.length ct) w := by
  refine ⟨updM M k { M k with sent := (M k).sent ++ [bs] }, l, al, cl, lc, at', ct, rfl, rfl, by omega, hI.upd k _ ((hI.1 k hk).send hi bs hb), ?_⟩
  rw [← runsA_put k hk, abs_send (hI.1 k hk).ok.ack]
  simpa only [sep_comm, sep_lcomm, sep_assoc] using h
theorem new_src2 (w : World) (o : Obj) (cs : List Value) (t : TypeId) : ∀ j u, cs[j]? = some u → ((w.alloc o).alloc (.cells cs.toArray t)).cell? ((⟨w.heap.size + 1, 0, none⟩ : Addr).add j) = some u := by
  have := new_src (w.alloc o) cs t
  rw [World.size_alloc] at this
  exact this
theorem linkR_to {W w : World} {X : Assn} {al : Option Addr} {cl ct gt : Nat} {lc : List Value} {l : List (Pkt × Nat)} (h : Sat W w (sep (linkR al cl lc (some ⟨gt, 0, none⟩) ct l) X)) (i : Nat) (hi : i < l.length) : w.cell? ⟨gt, i, none⟩ = some (.int .i64 l[i].2) := by
  obtain ⟨g, gt', v, -, e, hc, -⟩ := linkR_get h i hi
  cases e
  exact hc
/-- The packet that is changed, and all else. -/
def PkRel (W : World) (b : Nat) (P : Nat → Nat) (bm : Nat) (Q : Nat → Nat) (M : Nat → MEnd) (l : List (Pkt × Nat)) (al : Option Addr) (cl : Nat) (lc : List Value) (at' : Option Addr) (ct bp : Nat) (wr : World) : Prop :=
  ∃ (seq ack : Int) (v : Value) (bs : List UInt8), seq ≤ 60 ∧ Sat W wr (sep (blk bp (.cells #[.int .i64 seq, .int .i64 ack, v] 40 (0, 0))) (sep (rBytes.is [v] bs) (sep (RunsA b P bm Q M) (linkR al cl lc at' ct l))))
def RLaidRel (W : World) (b : Nat) (P : Nat → Nat) (bm : Nat) (Q : Nat → Nat) (M : Nat → MEnd) (l : List (Pkt × Nat)) (k : Nat) (ps : List Pkt) (psA : Assn) (lv tv jv : Value) (wr : World) : Prop :=
  ∃ (j : Nat) (al : Option Addr) (cl : Nat) (lc : List Value) (at' : Option Addr) (ct : Nat), j ≤ ps.length ∧ jv = .int .i64 j ∧ lv = .slice al (l.length + j) cl ∧ tv = .slice at' (l.length + j) ct ∧
    Sat W wr (sep (RunsA b P bm Q (updM M k { M k with ow := false })) (sep psA (linkR al cl lc at' ct (l ++ (ps.take j).map fun p => (p, 1 - k)))))
theorem runs_laid_core {W w : World} {b : Nat} {P : Nat → Nat} {bm : Nat} {Q : Nat → Nat} {i k n : Nat} {M : Nat → MEnd} {l : List (Pkt × Nat)} {psA : Assn} {al : Option Addr} {cl : Nat} {lc : List Value} {at' : Option Addr} {ct : Nat} {ps : List Pkt}
    (hI : RInv i M l) (hi : i ≤ 60) (hll : l.length ≤ 16 * i) (hk : k < 2) (hps : ps = outPkts (absM (M k)) n) (hn : n ≤ (absM (M k)).wait.length) (hp : ps.length ≤ 16)
    (h : Sat W w (sep (RunsA b P bm Q (updM M k { M k with ow := false })) (sep psA (linkR al cl lc at' ct (l ++ ps.map fun p => (p, 1 - k)))))) :
    RunsCore W b P bm Q (i + 1) (.slice al (l.length + ps.length) cl) (.slice at' (l.length + ps.length) ct) w := by
  have hI2 : RInv (i + 1) (updM M k { M k with ow := false }) (l ++ ps.map fun p => (p, 1 - k)) := by
    rw [hps]
    exact (hI.laid hi k n hk hn).upd k _ ((hI.1 k hk).out).up
  refine ⟨_, l ++ ps.map fun p => (p, 1 - k), al, cl, lc, at', ct, by simp, by simp, by rw [List.length_append, List.length_map]; omega, hI2, h.p1.drop⟩
theorem runs_in_core {W w : World} {b : Nat} {P : Nat → Nat} {bm : Nat} {Q : Nat → Nat} {i t : Nat} {M : Nat → MEnd} {m' : MEnd} {s : AEnd} {l : List (Pkt × Nat)} {al : Option Addr} {cl : Nat} {lc : List Value} {at' : Option Addr} {ct : Nat}
    (hI : RInv i M l) (hll : l.length ≤ 16 * i) (ht : t < 2) (hok : MOk 60 m') (hr : mlook m'.held (m'.got + 1) = none) (hs : m'.sent = (M t).sent) (hw : m'.win = (M t).win) (hl : m'.held.length ≤ (M t).held.length + 1) (he : s = absM m')
    (h : Sat W w (sep (isM (Q t) m') (sep (isEnd (P t) s) (sep (rsl (some ⟨b, 0, none⟩) [ptr (P 0), ptr (P 1)]) (sep (rsl (some ⟨bm, 0, none⟩) [ptr (Q 0), ptr (Q 1)]) (sep (isEnd (P (1 - t)) (absM (M (1 - t)))) (sep (isM (Q (1 - t)) (M (1 - t))) (linkR al cl lc at' ct l)))))))) :
    RunsCore W b P bm Q (i + 1) (.slice al l.length cl) (.slice at' l.length ct) w := by
  refine ⟨updM M t m', l, al, cl, lc, at', ct, rfl, rfl, by omega, hI.upd t _ ((hI.1 t ht).inn hok hr hs hw hl), ?_⟩
  rw [← runsA_put t ht, ← he]
  simpa only [sep_comm, sep_lcomm, sep_assoc] using h
end Go.Proofs.Ytnmkdidhilekiaa
